/- Rows of moves: compared, searched, in order. No condition beyond each statement's. -/
import Derived.Test.YtaidpalamhmghaaDoorMmF
import Derived.Laws.StructEq
namespace Go.Proofs.YtaidpalamhmghaaDoor.X
open Go.Proofs
set_option maxRecDepth 100000
set_option linter.unusedVariables false
set_option linter.unusedSimpArgs false
/-! ### Structs of two whole numbers, compared -/
structure Str2 (P : Program) (T e : TypeId) : Prop where
  u : P.underlying T = some (.struct (P.fieldsOf T))
  p : P.stoodInHeld T = false
  v : P.underlying e = some (.int .i64)
  g : P.eqGuardType P.depth T = false
  f : ∃ f0 f1 : Field, (P.fieldsOf T).toList = [f0, f1] ∧ (f0.name ≠ "_" ∧ f1.name ≠ "_") ∧ (f0.type = e ∧ f1.type = e) ∧ f0.offset = 0 ∧ f1.offset = 1
section
variable {P : Program} {tt : Ty} {N : Nat} {D0 : List Nat} {o : Oper} {env : Env} {mem : Mem} {k : St → Prop}
theorem run_eqStr2 {T e : TypeId} (hT : Str2 P T e) (a b a' b' : Int) (w : World) :
    (Op.equalIn 10000 T (.agg #[.int .i64 a, .int .i64 b]) (.agg #[.int .i64 a', .int .i64 b'])).run P w = .ok (decide (a = a' ∧ b = b')) w := by
  obtain ⟨f0, f1, hf, ⟨n0, n1⟩, ⟨t0, t1⟩, o0, o1⟩ := hT.f
  have hA : ∀ w, (isAgg e).run P w = .ok false w := fun w => by unfold isAgg; simp [run_underlying hT.v]
  rw [show (10000 : Nat) = 9999 + 1 from rfl, run_equalIn_struct w 9999 T _ _ hT.u hT.p, hf]
  simp only [Op.eqFields, if_pos n0, if_pos n1, t0, t1, o0, o1, part, hA, Sem.run_bind, Result.andThen_ok]
  by_cases h1 : a = a'
  · by_cases h2 : b = b'
    · simp [h1, h2, hA, part, run_equalIn_int _ _ _ _ _ _ _ hT.v]
    · simp [h1, h2, hA, part, run_equalIn_int _ _ _ _ _ _ _ hT.v]
  · simp [h1, hA, part, run_equalIn_int _ _ _ _ _ _ _ hT.v]
theorem RestVC2.eqMv {T e : TypeId} (hT : Str2 P T e) {x y : Operand} {yt : TypeId} {a b a' b' : Int} (q : Bool) (ho : o.op = .binOp .eql T x y yt)
    (hx : ev env x = some (.v (.agg [.int .i64 a, .int .i64 b]))) (hy : ev env y = some (.v (.agg [.int .i64 a', .int .i64 b'])))
    (hq : decide (a = a' ∧ b = b') = q) (h : k ⟨putE env o.dst (.v (.c (.bool q))), mem⟩) : RestVC2 P N D0 o env mem k := by
  refine ⟨⟨?_⟩⟩
  intro X ρ ac w next Q hX hd hA hW hk
  refine value_wp (st := ⟨env, mem⟩) (e := .v (.c (.bool q))) (kk := k) hd hA hW ?_ h hk
  simp only [execOp, ho, ev_den hA hx, ev_den hA hy, E.den, V.den, C.den, List.map_cons, List.map_nil, Sem.run_bind, run_eqGuard_agg _ _ _ _ _ _ _ hT.g, Result.andThen_ok, run_eql_struct, run_eqStr2 hT, hq]
  rfl
theorem RestVC2.neMv {T e : TypeId} (hT : Str2 P T e) {x y : Operand} {yt : TypeId} {a b a' b' : Int} (q : Bool) (ho : o.op = .binOp .neq T x y yt)
    (hx : ev env x = some (.v (.agg [.int .i64 a, .int .i64 b]))) (hy : ev env y = some (.v (.agg [.int .i64 a', .int .i64 b'])))
    (hq : (!decide (a = a' ∧ b = b')) = q) (h : k ⟨putE env o.dst (.v (.c (.bool q))), mem⟩) : RestVC2 P N D0 o env mem k := by
  refine ⟨⟨?_⟩⟩
  intro X ρ ac w next Q hX hd hA hW hk
  refine value_wp (st := ⟨env, mem⟩) (e := .v (.c (.bool q))) (kk := k) hd hA hW ?_ h hk
  simp only [execOp, ho, ev_den hA hx, ev_den hA hy, E.den, V.den, C.den, List.map_cons, List.map_nil, Sem.run_bind, run_eqGuard_agg _ _ _ _ _ _ _ hT.g, Result.andThen_ok, run_neq_struct, run_eqStr2 hT, hq]
  rfl
end
theorem strMv : Str2 Tryd.prog 33 3 := ⟨by kernel_rfl, by kernel_rfl, by kernel_rfl, by kernel_rfl, _, _, rfl, ⟨by decide, by decide⟩, ⟨rfl, rfl⟩, rfl, rfl⟩
theorem mv_ext {m n : Mv} : decide (m.1 = n.1 ∧ m.2 = n.2) = decide (m = n) := by
  rw [decide_eq_decide, Prod.ext_iff]

/-! ### Compared -/
def trY6 : Tr := .take 0 (.take 1 (.take 2 (.take 3 (.take 4 (.take 5 (.take 6 (.take 7 (.alt 8 .done .no))))))))
theorem yMoves_spec (l l' : List Mv) (hl : l.length ≤ 2000000) : Spec Tryd.prog 15 [.c (.sl 1000), .c (.sl 1001)] [(1000, .sl 33 2 (mvE l)), (1001, .sl 33 2 (mvE l'))]
    (isRes [vb (decide (l = l'))] [(1000, .sl 33 2 (mvE l)), (1001, .sl 33 2 (mvE l'))]) := by
  have hn := mvE_len l
  have hn' := mvE_len l'
  refine Spec.of_wpx tt_ok Tryd.func15 (by kernel_rfl) rfl ?_
  (repeat' ((conv => whnf); first | refine CondVC.t ?_ | refine CondVC.f ?_ | refine CondVC.dec (fun h => ?_) (fun h => ?_) | refine CondVC.ndec (fun h => ?_) (fun h => ?_) | refine CondVC.mk (fun h => ?_) (fun h => ?_) | refine ArVC.i64 (by first | omega | (simp only; omega)) ?_ | refine SideVC.mk (by first | omega | decide | (simp only; omega) | (simp [slS]; done) | (simp [slS]; omega) | (simp only [byteE_len, mvE_len, strE_len, intE_len, esC_len, List.length_cons, List.length_nil, List.length_append, List.length_replicate, List.length_set, Int.toNat_natCast, and_true] at *; omega)) ?_ | refine LoopN.go ?_ | exact trivial | refine AltVC.mk ?_ ?_ | refine HeldVC.mk rfl ?_ | refine OpVC.more tt_ok ?_ | refine RestVC.ext tt_ok ?_)); all_goals (conv => whnf)
  · exact RetVC.res (by simp only [vb]; rw [decide_eq_false]; intro e; apply h; rw [e]) rfl
  have hll : l.length = l'.length := by simp only [hn, hn', Classical.not_not] at h; omega
  refine LoopVC.mk (G := Nat) (fun k => ⟨[(13, .v (i64 k)), (12, .v (i64 l.length)), (1, .v (.c (.sl 1001))), (0, .v (.c (.sl 1000)))], [(1000, .sl 33 2 (mvE l)), (1001, .sl 33 2 (mvE l'))]⟩)
    (fun k => k ≤ l.length ∧ l.take k = l'.take k) (fun k => l.length - k) 0 ⟨by omega, by simp⟩ (Sub.mk [] [] ⟨rfl, by rw [← hn]; rfl, rfl, rfl, trivial⟩ rfl rfl) ?_
  intro k ⟨hk, hkt⟩
  by_cases hlt : k < l.length
  · have hlt' : k < l'.length := by omega
    have g1 : (mvE l)[(k : Int).toNat]? = some (mvC l[k]) := by rw [Int.toNat_natCast]; exact mvE_get hlt
    have g2 : (mvE l')[(k : Int).toNat]? = some (mvC l'[k]) := by rw [Int.toNat_natCast]; exact mvE_get hlt'
    have hnx : l[k] = l'[k] → k + 1 ≤ l.length ∧ l.take (k + 1) = l'.take (k + 1) := fun e => ⟨hlt, by rw [List.take_succ_eq_append_getElem hlt, List.take_succ_eq_append_getElem hlt', hkt, e]⟩
    have hno : ¬ l[k] = l'[k] → decide (l = l') = false := fun e => decide_eq_false fun e2 => by subst e2; exact e rfl
    have hme := mv_ext (m := l[k]) (n := l'[k])
    generalize l[k] = m at *
    generalize l'[k] = n at *
    by_cases e : m = n
    · rw [decide_eq_true e] at hme
      (repeat' ((conv => whnf); first | refine CondVC.t ?_ | refine CondVC.f ?_ | refine CondVC.dec (fun h => ?_) (fun h => ?_) | refine CondVC.ndec (fun h => ?_) (fun h => ?_) | refine CondVC.mk (fun h => ?_) (fun h => ?_) | refine ArVC.i64 (by first | omega | (simp only; omega)) ?_ | refine SideVC.mk (by first | omega | decide | (simp only; omega) | (simp [slS]; done) | (simp [slS]; omega) | (simp only [byteE_len, mvE_len, strE_len, intE_len, esC_len, List.length_cons, List.length_nil, List.length_append, List.length_replicate, List.length_set, Int.toNat_natCast, and_true] at *; omega)) ?_ | refine LoopN.go ?_ | exact trivial | refine AltVC.mk ?_ ?_ | refine HeldVC.mk rfl ?_ | refine DrawVC.tree (id := 6) tt_ok [1000, 1001] trY6 (by kernel_rfl) (by kernel_rfl) rfl ?_ | refine LoadVC.mk _ g1 ?_ | refine LoadVC.mk _ g2 ?_ | refine RestVC2.neMv strMv false rfl rfl rfl (by rw [hme]; rfl) ?_ | refine SideVC.mk (by simp only [hn, hn']; omega) ?_ | refine OpVC.more tt_ok ?_ | refine RestVC.ext tt_ok ?_)); all_goals (conv => whnf)
      all_goals first
        | (exfalso; omega)
        | exact ⟨k + 1, hnx e, by omega, Sub.mk [] _ ⟨rfl, rfl, rfl, rfl, trivial⟩ rfl rfl⟩
    · rw [decide_eq_false e] at hme
      rw [hno e]
      (repeat' ((conv => whnf); first | refine CondVC.t ?_ | refine CondVC.f ?_ | refine CondVC.dec (fun h => ?_) (fun h => ?_) | refine CondVC.ndec (fun h => ?_) (fun h => ?_) | refine CondVC.mk (fun h => ?_) (fun h => ?_) | refine ArVC.i64 (by first | omega | (simp only; omega)) ?_ | refine SideVC.mk (by first | omega | decide | (simp only; omega) | (simp [slS]; done) | (simp [slS]; omega) | (simp only [byteE_len, mvE_len, strE_len, intE_len, esC_len, List.length_cons, List.length_nil, List.length_append, List.length_replicate, List.length_set, Int.toNat_natCast, and_true] at *; omega)) ?_ | refine LoopN.go ?_ | exact trivial | refine AltVC.mk ?_ ?_ | refine HeldVC.mk rfl ?_ | refine DrawVC.tree (id := 6) tt_ok [1000, 1001] trY6 (by kernel_rfl) (by kernel_rfl) rfl ?_ | refine LoadVC.mk _ g1 ?_ | refine LoadVC.mk _ g2 ?_ | refine RestVC2.neMv strMv true rfl rfl rfl (by rw [hme]; rfl) ?_ | refine SideVC.mk (by simp only [hn, hn']; omega) ?_ | refine OpVC.more tt_ok ?_ | refine RestVC.ext tt_ok ?_)); all_goals (conv => whnf)
      all_goals first
        | (exfalso; omega)
        | exact RetVC.res rfl rfl
  · have e : l = l' := by
      rw [List.take_of_length_le (by omega), List.take_of_length_le (by omega)] at hkt
      exact hkt
    rw [decide_eq_true e]
    (repeat' ((conv => whnf); first | refine CondVC.t ?_ | refine CondVC.f ?_ | refine CondVC.dec (fun h => ?_) (fun h => ?_) | refine CondVC.ndec (fun h => ?_) (fun h => ?_) | refine CondVC.mk (fun h => ?_) (fun h => ?_) | refine ArVC.i64 (by first | omega | (simp only; omega)) ?_ | refine SideVC.mk (by first | omega | decide | (simp only; omega) | (simp [slS]; done) | (simp [slS]; omega) | (simp only [byteE_len, mvE_len, strE_len, intE_len, esC_len, List.length_cons, List.length_nil, List.length_append, List.length_replicate, List.length_set, Int.toNat_natCast, and_true] at *; omega)) ?_ | refine LoopN.go ?_ | exact trivial | refine AltVC.mk ?_ ?_ | refine HeldVC.mk rfl ?_ | refine OpVC.more tt_ok ?_ | refine RestVC.ext tt_ok ?_)); all_goals (conv => whnf)
    all_goals first
      | (exfalso; omega)
      | exact RetVC.res rfl rfl

/-! ### Searched -/
theorem yIn_spec (l : List Mv) (m : Mv) (hl : l.length ≤ 2000000) : Spec Tryd.prog 18 [.c (.sl 1000), .agg (mvC m)] [(1000, .sl 33 2 (mvE l))]
    (isRes [vb (decide (m ∈ l))] [(1000, .sl 33 2 (mvE l))]) := by
  have hn := mvE_len l
  refine Spec.of_wpx tt_ok Tryd.func18 (by kernel_rfl) rfl ?_
  (repeat' ((conv => whnf); first | refine CondVC.t ?_ | refine CondVC.f ?_ | refine CondVC.dec (fun h => ?_) (fun h => ?_) | refine CondVC.ndec (fun h => ?_) (fun h => ?_) | refine CondVC.mk (fun h => ?_) (fun h => ?_) | refine ArVC.i64 (by first | omega | (simp only; omega)) ?_ | refine SideVC.mk (by first | omega | decide | (simp only; omega) | (simp [slS]; done) | (simp [slS]; omega) | (simp only [byteE_len, mvE_len, strE_len, intE_len, esC_len, List.length_cons, List.length_nil, List.length_append, List.length_replicate, List.length_set, Int.toNat_natCast, and_true] at *; omega)) ?_ | refine LoopN.go ?_ | exact trivial | refine AltVC.mk ?_ ?_ | refine HeldVC.mk rfl ?_ | refine OpVC.more tt_ok ?_ | refine RestVC.ext tt_ok ?_)); all_goals (conv => whnf)
  refine LoopVC.mk (G := Nat) (fun k => ⟨[(9, .v (i64 k)), (8, .v (i64 l.length)), (7, .v (.c (.sl 1000))), (3, .v (.c (.ptr 3 0)))], [(3, .box 33 (mvC m)), (1000, .sl 33 2 (mvE l))]⟩)
    (fun k => k ≤ l.length ∧ m ∉ l.take k) (fun k => l.length - k) 0 ⟨by omega, by simp⟩ (Sub.mk [] [] ⟨rfl, by rw [← hn]; rfl, rfl, rfl, trivial⟩ rfl rfl) ?_
  intro k ⟨hk, hkt⟩
  by_cases hlt : k < l.length
  · have g1 : (mvE l)[(k : Int).toNat]? = some (mvC l[k]) := by rw [Int.toNat_natCast]; exact mvE_get hlt
    have hnx : ¬ l[k] = m → k + 1 ≤ l.length ∧ m ∉ l.take (k + 1) := fun e => ⟨hlt, by rw [List.take_succ_eq_append_getElem hlt, List.mem_append]; rintro (h | h); exact hkt h; exact e (List.mem_singleton.1 h).symm⟩
    have hyes : l[k] = m → decide (m ∈ l) = true := fun e => decide_eq_true (e ▸ List.getElem_mem hlt)
    have hme := mv_ext (m := l[k]) (n := m)
    generalize l[k] = n at *
    by_cases e : n = m
    · rw [decide_eq_true e] at hme
      rw [hyes e]
      (repeat' ((conv => whnf); first | refine CondVC.t ?_ | refine CondVC.f ?_ | refine CondVC.dec (fun h => ?_) (fun h => ?_) | refine CondVC.ndec (fun h => ?_) (fun h => ?_) | refine CondVC.mk (fun h => ?_) (fun h => ?_) | refine ArVC.i64 (by first | omega | (simp only; omega)) ?_ | refine SideVC.mk (by first | omega | decide | (simp only; omega) | (simp [slS]; done) | (simp [slS]; omega) | (simp only [byteE_len, mvE_len, strE_len, intE_len, esC_len, List.length_cons, List.length_nil, List.length_append, List.length_replicate, List.length_set, Int.toNat_natCast, and_true] at *; omega)) ?_ | refine LoopN.go ?_ | exact trivial | refine AltVC.mk ?_ ?_ | refine HeldVC.mk rfl ?_ | refine LoadVC.mk _ g1 ?_ | refine RestVC2.eqMv strMv true rfl rfl rfl hme ?_ | refine SideVC.mk (by simp only [hn]; omega) ?_ | refine OpVC.more tt_ok ?_ | refine RestVC.ext tt_ok ?_)); all_goals (conv => whnf)
      all_goals first
        | (exfalso; omega)
        | exact RetVC.res rfl rfl
    · rw [decide_eq_false e] at hme
      (repeat' ((conv => whnf); first | refine CondVC.t ?_ | refine CondVC.f ?_ | refine CondVC.dec (fun h => ?_) (fun h => ?_) | refine CondVC.ndec (fun h => ?_) (fun h => ?_) | refine CondVC.mk (fun h => ?_) (fun h => ?_) | refine ArVC.i64 (by first | omega | (simp only; omega)) ?_ | refine SideVC.mk (by first | omega | decide | (simp only; omega) | (simp [slS]; done) | (simp [slS]; omega) | (simp only [byteE_len, mvE_len, strE_len, intE_len, esC_len, List.length_cons, List.length_nil, List.length_append, List.length_replicate, List.length_set, Int.toNat_natCast, and_true] at *; omega)) ?_ | refine LoopN.go ?_ | exact trivial | refine AltVC.mk ?_ ?_ | refine HeldVC.mk rfl ?_ | refine LoadVC.mk _ g1 ?_ | refine RestVC2.eqMv strMv false rfl rfl rfl hme ?_ | refine SideVC.mk (by simp only [hn]; omega) ?_ | refine OpVC.more tt_ok ?_ | refine RestVC.ext tt_ok ?_)); all_goals (conv => whnf)
      all_goals first
        | (exfalso; omega)
        | exact ⟨k + 1, hnx e, by omega, Sub.mk [] _ ⟨rfl, rfl, rfl, rfl, trivial⟩ rfl rfl⟩
  · have e : m ∉ l := by
      rw [List.take_of_length_le (by omega)] at hkt
      exact hkt
    rw [decide_eq_false e]
    (repeat' ((conv => whnf); first | refine CondVC.t ?_ | refine CondVC.f ?_ | refine CondVC.dec (fun h => ?_) (fun h => ?_) | refine CondVC.ndec (fun h => ?_) (fun h => ?_) | refine CondVC.mk (fun h => ?_) (fun h => ?_) | refine ArVC.i64 (by first | omega | (simp only; omega)) ?_ | refine SideVC.mk (by first | omega | decide | (simp only; omega) | (simp [slS]; done) | (simp [slS]; omega) | (simp only [byteE_len, mvE_len, strE_len, intE_len, esC_len, List.length_cons, List.length_nil, List.length_append, List.length_replicate, List.length_set, Int.toNat_natCast, and_true] at *; omega)) ?_ | refine LoopN.go ?_ | exact trivial | refine AltVC.mk ?_ ?_ | refine HeldVC.mk rfl ?_ | refine OpVC.more tt_ok ?_ | refine RestVC.ext tt_ok ?_)); all_goals (conv => whnf)
    all_goals first
      | (exfalso; omega)
      | exact RetVC.res rfl rfl

/-! ### In order -/
theorem yOrder_spec (l : List Mv) (hl : l.length ≤ 2000000) (hr : l.Pairwise mvLt) : Spec Tryd.prog 17 [.c (.sl 1000)] [(1000, .sl 33 2 (mvE l))]
    (isRes [vb true] [(1000, .sl 33 2 (mvE l))]) := by
  have hn := mvE_len l
  refine Spec.of_wpx tt_ok Tryd.func17 (by kernel_rfl) rfl ?_
  (repeat' ((conv => whnf); first | refine CondVC.t ?_ | refine CondVC.f ?_ | refine CondVC.dec (fun h => ?_) (fun h => ?_) | refine CondVC.ndec (fun h => ?_) (fun h => ?_) | refine CondVC.mk (fun h => ?_) (fun h => ?_) | refine ArVC.i64 (by first | omega | (simp only; omega)) ?_ | refine SideVC.mk (by first | omega | decide | (simp only; omega) | (simp [slS]; done) | (simp [slS]; omega) | (simp only [byteE_len, mvE_len, strE_len, intE_len, esC_len, List.length_cons, List.length_nil, List.length_append, List.length_replicate, List.length_set, Int.toNat_natCast, and_true] at *; omega)) ?_ | refine LoopN.go ?_ | exact trivial | refine AltVC.mk ?_ ?_ | refine HeldVC.mk rfl ?_ | refine OpVC.more tt_ok ?_ | refine RestVC.ext tt_ok ?_)); all_goals (conv => whnf)
  refine LoopVC.mk (G := Nat) (fun k => ⟨[(3, .v (i64 ((k : Int) + 1))), (0, .v (.c (.sl 1000)))], [(1000, .sl 33 2 (mvE l))]⟩)
    (fun k => k ≤ l.length) (fun k => l.length - k) 0 (by omega) (Sub.mk [] [] ⟨rfl, rfl, trivial⟩ rfl rfl) ?_
  intro k hk
  by_cases hlt : k + 1 < l.length
  · have g1 : (mvE l)[((k : Int) + 1 - 1).toNat]? = some (mvC l[k]) := by rw [show ((k : Int) + 1 - 1).toNat = k by omega]; exact mvE_get (by omega)
    have g2 : (mvE l)[((k : Int) + 1).toNat]? = some (mvC l[k + 1]) := by rw [show ((k : Int) + 1).toNat = k + 1 by omega]; exact mvE_get hlt
    have hm : mvLt l[k] l[k + 1] := List.pairwise_iff_getElem.1 hr k (k + 1) (by omega) hlt (by omega)
    unfold mvLt at hm
    generalize l[k] = m at *
    generalize l[k + 1] = n at *
    obtain ⟨a, b⟩ := m
    obtain ⟨c, d⟩ := n
    simp only at hm
    (repeat' ((conv => whnf); first | refine CondVC.t ?_ | refine CondVC.f ?_ | refine CondVC.dec (fun h => ?_) (fun h => ?_) | refine CondVC.ndec (fun h => ?_) (fun h => ?_) | refine CondVC.mk (fun h => ?_) (fun h => ?_) | refine ArVC.i64 (by first | omega | (simp only; omega)) ?_ | refine SideVC.mk (by first | omega | decide | (simp only; omega) | (simp [slS]; done) | (simp [slS]; omega) | (simp only [byteE_len, mvE_len, strE_len, intE_len, esC_len, List.length_cons, List.length_nil, List.length_append, List.length_replicate, List.length_set, Int.toNat_natCast, and_true] at *; omega)) ?_ | refine LoopN.go ?_ | exact trivial | refine AltVC.mk ?_ ?_ | refine HeldVC.mk rfl ?_ | refine DrawVC.quiet tt_ok (by kernel_rfl) (by kernel_rfl) ?_ | refine LoadVC.mk _ g1 ?_ | refine LoadVC.mk _ g2 ?_ | refine SideVC.mk (by simp only [hn]; omega) ?_ | refine OpVC.more tt_ok ?_ | refine RestVC.ext tt_ok ?_)); all_goals (conv => whnf)
    all_goals first
      | (exfalso; omega)
      | exact ⟨k + 1, by omega, by omega, Sub.mk [] _ ⟨rfl, rfl, trivial⟩ rfl rfl⟩
  · (repeat' ((conv => whnf); first | refine CondVC.t ?_ | refine CondVC.f ?_ | refine CondVC.dec (fun h => ?_) (fun h => ?_) | refine CondVC.ndec (fun h => ?_) (fun h => ?_) | refine CondVC.mk (fun h => ?_) (fun h => ?_) | refine ArVC.i64 (by first | omega | (simp only; omega)) ?_ | refine SideVC.mk (by first | omega | decide | (simp only; omega) | (simp [slS]; done) | (simp [slS]; omega) | (simp only [byteE_len, mvE_len, strE_len, intE_len, esC_len, List.length_cons, List.length_nil, List.length_append, List.length_replicate, List.length_set, Int.toNat_natCast, and_true] at *; omega)) ?_ | refine LoopN.go ?_ | exact trivial | refine AltVC.mk ?_ ?_ | refine HeldVC.mk rfl ?_ | refine OpVC.more tt_ok ?_ | refine RestVC.ext tt_ok ?_)); all_goals (conv => whnf)
    all_goals first
      | (exfalso; omega)
      | exact RetVC.res rfl rfl
end Go.Proofs.YtaidpalamhmghaaDoor.X
