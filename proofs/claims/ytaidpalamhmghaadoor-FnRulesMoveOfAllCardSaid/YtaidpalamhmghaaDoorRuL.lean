/- FnRulesMoveOfAll: the law. No condition beyond the statement's. -/
import Derived.Test.YtaidpalamhmghaaDoorRuW4
namespace Go.Proofs.YtaidpalamhmghaaDoor.X
open Go.Proofs
set_option maxRecDepth 100000
set_option linter.unusedVariables false
set_option linter.unusedSimpArgs false
/-! ### Structs of three truths, compared -/
structure StrB (P : Program) (T e : TypeId) : Prop where
  u : P.underlying T = some (.struct (P.fieldsOf T))
  p : P.stoodInHeld T = false
  v : P.underlying e = some .bool
  g : P.eqGuardType P.depth T = false
  f : ∃ f0 f1 f2 : Field, (P.fieldsOf T).toList = [f0, f1, f2] ∧ (f0.name ≠ "_" ∧ f1.name ≠ "_" ∧ f2.name ≠ "_") ∧ (f0.type = e ∧ f1.type = e ∧ f2.type = e) ∧ f0.offset = 0 ∧ f1.offset = 1 ∧ f2.offset = 2
section
variable {P : Program} {tt : Ty} {N : Nat} {D0 : List Nat} {o : Oper} {env : Env} {mem : Mem} {k : St → Prop}
theorem run_eqB (e : TypeId) (he : P.underlying e = some .bool) (n : Nat) (a a' : Bool) (w : World) : (Op.equalIn (n + 1) e (.bool a) (.bool a')).run P w = .ok (decide (a = a')) w := by
  cases a <;> cases a' <;> simp [Op.equalIn, run_underlying he]
theorem run_eqStrB {T e : TypeId} (hT : StrB P T e) (a b c a' b' c' : Bool) (w : World) :
    (Op.equalIn 10000 T (.agg #[.bool a, .bool b, .bool c]) (.agg #[.bool a', .bool b', .bool c'])).run P w = .ok (decide (a = a' ∧ b = b' ∧ c = c')) w := by
  obtain ⟨f0, f1, f2, hf, ⟨n0, n1, n2⟩, ⟨t0, t1, t2⟩, o0, o1, o2⟩ := hT.f
  have hA : ∀ w, (isAgg e).run P w = .ok false w := fun w => by unfold isAgg; simp [run_underlying hT.v]
  rw [show (10000 : Nat) = 9999 + 1 from rfl, run_equalIn_struct w 9999 T _ _ hT.u hT.p, hf]
  simp only [Op.eqFields, if_pos n0, if_pos n1, if_pos n2, t0, t1, t2, o0, o1, o2, part, hA, Sem.run_bind, Result.andThen_ok]
  by_cases h1 : a = a'
  · by_cases h2 : b = b'
    · by_cases h3 : c = c'
      · simp [h1, h2, h3, hA, part, run_eqB e hT.v]
      · simp [h1, h2, h3, hA, part, run_eqB e hT.v]
    · simp [h1, h2, hA, part, run_eqB e hT.v]
  · simp [h1, hA, part, run_eqB e hT.v]
theorem RestVC2.neRule {T e : TypeId} (hT : StrB P T e) {x y : Operand} {yt : TypeId} {a b c : Bool} (ho : o.op = .binOp .neq T x y yt)
    (hx : ev env x = some (.v (.agg [.bool a, .bool b, .bool c]))) (hy : ev env y = some (.v (.agg [.bool a, .bool b, .bool c])))
    (h : k ⟨putE env o.dst (.v (.c (.bool false))), mem⟩) : RestVC2 P N D0 o env mem k := by
  refine ⟨⟨?_⟩⟩
  intro X ρ ac w next Q hX hd hA hW hk
  refine value_wp (st := ⟨env, mem⟩) (e := .v (.c (.bool false))) (kk := k) hd hA hW ?_ h hk
  simp only [execOp, ho, ev_den hA hx, ev_den hA hy, E.den, V.den, C.den, List.map_cons, List.map_nil, Sem.run_bind, run_eqGuard_agg _ _ _ _ _ _ _ hT.g, Result.andThen_ok, run_neq_struct, run_eqStrB hT]
  simp
end
theorem strRule : StrB Tryd.prog 31 4 := ⟨by kernel_rfl, by kernel_rfl, by kernel_rfl, by kernel_rfl, _, _, _, rfl, ⟨by decide, by decide, by decide⟩, ⟨rfl, rfl, rfl⟩, rfl, rfl, rfl⟩

/-! ### Texts of rules -/
theorem implRuleText_spec (o b l : Bool) : Spec Tryd.prog 25 [ruleV o b l] [] (isRes [.c (.str (ruTx o b l)), vb true] []) := by
  have h1 := implText_spec o b l
  generalize ruTx o b l = t at *
  refine Spec.of_wpx tt_ok Tryd.func25 (by kernel_rfl) rfl ?_
  (repeat' ((conv => whnf); first | refine CondVC.t ?_ | refine CondVC.f ?_ | refine CondVC.dec (fun h => ?_) (fun h => ?_) | refine CondVC.ndec (fun h => ?_) (fun h => ?_) | refine CondVC.mk (fun h => ?_) (fun h => ?_) | refine ArVC.i64 (by first | omega | (simp only; omega)) ?_ | refine SideVC.mk (by first | omega | decide | (simp only; omega) | (simp [slS]; done) | (simp [slS]; omega) | (simp only [byteE_len, mvE_len, strE_len, intE_len, esC_len, List.length_cons, List.length_nil, List.length_append, List.length_replicate, List.length_set, Int.toNat_natCast, and_true] at *; omega)) ?_ | refine LoopN.go ?_ | exact trivial | refine AltVC.mk ?_ ?_ | refine HeldVC.mk rfl ?_ | refine CallVC.pure h1 rfl ?_ | refine OpVC.more tt_ok ?_ | refine RestVC.ext tt_ok ?_)); all_goals (conv => whnf)
  all_goals exact RetVC.res rfl rfl
theorem specRuleText_spec (o b l : Bool) : Spec Tryd.prog 26 [ruleV o b l] [] (isRes [.c (.str (ruTx o b l)), vb true] []) := by
  have h1 := ruText_spec o b l
  generalize ruTx o b l = t at *
  refine Spec.of_wpx tt_ok Tryd.func26 (by kernel_rfl) rfl ?_
  (repeat' ((conv => whnf); first | refine CondVC.t ?_ | refine CondVC.f ?_ | refine CondVC.dec (fun h => ?_) (fun h => ?_) | refine CondVC.ndec (fun h => ?_) (fun h => ?_) | refine CondVC.mk (fun h => ?_) (fun h => ?_) | refine ArVC.i64 (by first | omega | (simp only; omega)) ?_ | refine SideVC.mk (by first | omega | decide | (simp only; omega) | (simp [slS]; done) | (simp [slS]; omega) | (simp only [byteE_len, mvE_len, strE_len, intE_len, esC_len, List.length_cons, List.length_nil, List.length_append, List.length_replicate, List.length_set, Int.toNat_natCast, and_true] at *; omega)) ?_ | refine LoopN.go ?_ | exact trivial | refine AltVC.mk ?_ ?_ | refine HeldVC.mk rfl ?_ | refine CallVC.pure h1 rfl ?_ | refine OpVC.more tt_ok ?_ | refine RestVC.ext tt_ok ?_)); all_goals (conv => whnf)
  all_goals exact RetVC.res rfl rfl
theorem parse_ru (o b l : Bool) : parseF (ruTx o b l) = [ruleV o b l, vb true] := by
  cases o <;> cases b <;> cases l <;> rfl
theorem parse_text {s : Tx} {o b l : Bool} (h : parseF s = [ruleV o b l, vb true]) : ruTx o b l = s := by
  unfold parseF at h
  split at h
  · rename_i k hk
    have := List.find?_some hk
    simp only [decide_eq_true_eq] at this
    simp only [List.cons.injEq, ruleK, ruleV, V.agg.injEq, C.bool.injEq, and_true] at h
    obtain ⟨h1, h2, h3⟩ := h
    rw [← this, ← h1, ← h2, ← h3]; rfl
  · simp [vb] at h

/-! ### What is asked of moves -/
theorem ru_plain {w : Tx} {o bk l : Bool} (hok : w.all okCh = true) {m : Mv} (h : m ∈ movesF w both) : m ∈ ruL w o bk l :=
  mem_ru.2 (rc_mono (fun h => absurd h (by decide)) (fun h => absurd h (by decide)) (fun h => absurd h (by decide)) ((rc_none hok).2 h))
theorem ru_every {w : Tx} {o bk l : Bool} {m : Mv} (h : m ∈ ruL w o bk l) : m ∈ ruL w true true true :=
  mem_ru.2 (rc_mono (fun _ => rfl) (fun _ => rfl) (fun _ => rfl) (mem_ru.1 h))
theorem cb_back {w : Tx} {o bk l : Bool} {m : Mv} (hl : lineOf w 10 = true) (h : m ∈ ruL w o bk l) (hb : bk = true) : cbF (madeF w m) o bk l (m.2, m.1) = true ∧ madeF (madeF w m) (m.2, m.1) = w := by
  subst hb
  have hr := mem_ru.1 h
  have h1 := rc_back hr
  refine ⟨?_, h1.2⟩
  unfold cbF
  rw [show rcF (madeF w m) o true l (m.2, m.1) = true from h1.1, Bool.and_true]
  unfold lineOf at hl ⊢
  simp only [Bool.and_eq_true] at hl ⊢
  rw [madeF_len]
  exact ⟨hl.1, rc_made_ok hl.2 hr⟩
theorem pl_made {x : Tx} {o bk l : Bool} {L : List Mv} (h : plOk x o bk l L = true) {k : Nat} (hk : k < L.length) : cbF (wAt x L k) o bk l L[k] = true ∧ madeF (wAt x L k) L[k] = wAt x L (k + 1) ∧ (wAt x L k).length ≤ 10 := by
  unfold plOk at h
  simp only [Bool.and_eq_true, decide_eq_true_eq] at h
  have ha := cntP_all h.2.2
  have hl := wAt_line (o := o) (bk := bk) (lg := l) h.1 k (by omega) fun j hj _ => ha j hj
  exact ⟨by unfold cbF; rw [hl]; exact ha k hk, (wAt_succ x hk).symm, (few12 hl).2⟩
end Go.Proofs.YtaidpalamhmghaaDoor.X
