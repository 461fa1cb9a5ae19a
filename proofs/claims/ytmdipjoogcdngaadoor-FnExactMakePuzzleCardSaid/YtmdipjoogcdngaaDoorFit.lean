/- Clues that a line fits: both functions and the law. No condition beyond the statement's. -/
import Derived.Test.YtmdipjoogcdngaaDoorCntF
import Derived.Test.YtmdipjoogcdngaaDoorClue
import Derived.Test.YtmdipjoogcdngaaDoorEdge
import Derived.Laws.StructEq
namespace Go.Proofs.YtmdipjoogcdngaaDoor.X
open Go.Proofs
set_option maxRecDepth 100000
set_option linter.unusedVariables false
set_option linter.unusedSimpArgs false
/-! ### Structs of three whole numbers, compared -/
structure Str3 (P : Program) (T e : TypeId) : Prop where
  u : P.underlying T = some (.struct (P.fieldsOf T))
  p : P.stoodInHeld T = false
  v : P.underlying e = some (.int .i64)
  g : P.eqGuardType P.depth T = false
  f : ∃ f0 f1 f2 : Field, (P.fieldsOf T).toList = [f0, f1, f2] ∧ (f0.name ≠ "_" ∧ f1.name ≠ "_" ∧ f2.name ≠ "_") ∧ (f0.type = e ∧ f1.type = e ∧ f2.type = e) ∧ f0.offset = 0 ∧ f1.offset = 1 ∧ f2.offset = 2
section
variable {P : Program} {tt : Ty} {N : Nat} {D0 : List Nat} {o : Oper} {env : Env} {mem : Mem} {k : St → Prop}
theorem run_eqStr {T e : TypeId} (hT : Str3 P T e) (a b c a' b' c' : Int) (w : World) :
    (Op.equalIn 10000 T (.agg #[.int .i64 a, .int .i64 b, .int .i64 c]) (.agg #[.int .i64 a', .int .i64 b', .int .i64 c'])).run P w = .ok (decide (a = a' ∧ b = b' ∧ c = c')) w := by
  obtain ⟨f0, f1, f2, hf, ⟨n0, n1, n2⟩, ⟨t0, t1, t2⟩, o0, o1, o2⟩ := hT.f
  have hA : ∀ w, (isAgg e).run P w = .ok false w := fun w => by unfold isAgg; simp [run_underlying hT.v]
  rw [show (10000 : Nat) = 9999 + 1 from rfl, run_equalIn_struct w 9999 T _ _ hT.u hT.p, hf]
  simp only [Op.eqFields, if_pos n0, if_pos n1, if_pos n2, t0, t1, t2, o0, o1, o2, part, hA, Sem.run_bind, Result.andThen_ok]
  by_cases h1 : a = a'
  · by_cases h2 : b = b'
    · by_cases h3 : c = c'
      · simp [h1, h2, h3, hA, part, run_equalIn_int _ _ _ _ _ _ _ hT.v]
      · simp [h1, h2, h3, hA, part, run_equalIn_int _ _ _ _ _ _ _ hT.v]
    · simp [h1, h2, hA, part, run_equalIn_int _ _ _ _ _ _ _ hT.v]
  · simp [h1, hA, part, run_equalIn_int _ _ _ _ _ _ _ hT.v]
theorem RestVC2.eqStr {T e : TypeId} (hT : Str3 P T e) {x y : Operand} {yt : TypeId} {a b c a' b' c' : Int} (q : Bool) (ho : o.op = .binOp .eql T x y yt)
    (hx : ev env x = some (.v (.agg [.int .i64 a, .int .i64 b, .int .i64 c]))) (hy : ev env y = some (.v (.agg [.int .i64 a', .int .i64 b', .int .i64 c'])))
    (hq : decide (a = a' ∧ b = b' ∧ c = c') = q) (h : k ⟨putE env o.dst (.v (.c (.bool q))), mem⟩) : RestVC2 P N D0 o env mem k := by
  refine ⟨⟨?_⟩⟩
  intro X ρ ac w next Q hX hd hA hW hk
  refine value_wp (st := ⟨env, mem⟩) (e := .v (.c (.bool q))) (kk := k) hd hA hW ?_ h hk
  simp only [execOp, ho, ev_den hA hx, ev_den hA hy, E.den, V.den, C.den, List.map_cons, List.map_nil, Sem.run_bind, run_eqGuard_agg _ _ _ _ _ _ _ hT.g, Result.andThen_ok, run_eql_struct, run_eqStr hT, hq]
  rfl
end
theorem strClue : Str3 Tryd.prog 29 3 := ⟨by kernel_rfl, by kernel_rfl, by kernel_rfl, by kernel_rfl, _, _, _, rfl, ⟨by decide, by decide, by decide⟩, ⟨rfl, rfl, rfl⟩, rfl, rfl, rfl⟩

/-! ### Pairs to pass -/
def prF : Tx → Nat → Nat → Nat
  | [], s, _ => s
  | b :: r, s, t => if b = 84 then prF r s (t + 1) else if b = 70 then prF r (s + t) t else prF r s t
theorem prF_step {w : Tx} {k : Nat} (h : k < w.length) (s t : Nat) : prF (w.drop k) s t = if w.getD k 0 = 84 then prF (w.drop (k + 1)) s (t + 1) else if w.getD k 0 = 70 then prF (w.drop (k + 1)) (s + t) t else prF (w.drop (k + 1)) s t := by
  rw [drop_at h]; rfl
theorem implPairs_spec (w : Tx) (hw : w.length ≤ 1000) : Spec Tryd.prog 122 [.c (.str w)] [] (isRes [i64 (prF w 0 0 : Nat)] []) := by
  refine Spec.of_wpx tt_ok Tryd.func122 (by kernel_rfl) rfl ?_
  (repeat' ((conv => whnf); first | refine CondVC.t ?_ | refine CondVC.f ?_ | refine CondVC.dec (fun h => ?_) (fun h => ?_) | refine CondVC.ndec (fun h => ?_) (fun h => ?_) | refine CondVC.mk (fun h => ?_) (fun h => ?_) | refine ArVC.i64 (by first | omega | (simp only; omega)) ?_ | refine SideVC.mk (by first | omega | decide | (simp only; omega) | (simp [slS]; done) | (simp [slS]; omega) | (simp only [byteE_len, mvE_len, strE_len, intE_len, esC_len, List.length_cons, List.length_nil, List.length_append, List.length_replicate, List.length_set, Int.toNat_natCast, and_true] at *; omega)) ?_ | refine LoopN.go ?_ | exact trivial | refine AltVC.mk ?_ ?_ | refine HeldVC.mk rfl ?_ | refine OpVC.more tt_ok ?_ | refine RestVC.ext tt_ok ?_)); all_goals (conv => whnf)
  refine LoopVC.mk (G := Nat × Nat × Nat) (fun γ => ⟨[(8, .v (i64 γ.1)), (7, .v (i64 w.length)), (4, .v (i64 γ.2.2)), (3, .v (i64 γ.2.1)), (0, .v (.c (.str w)))], []⟩)
    (fun γ => γ.1 ≤ w.length ∧ prF (w.drop γ.1) γ.2.1 γ.2.2 = prF w 0 0 ∧ γ.2.2 ≤ γ.1 ∧ γ.2.1 ≤ γ.1 * 1000) (fun γ => w.length - γ.1) (0, 0, 0) ⟨Nat.zero_le _, rfl, Nat.le_refl _, Nat.zero_le _⟩ (Sub.mk [] [] ⟨rfl, rfl, rfl, rfl, rfl, trivial⟩ rfl rfl) ?_
  rintro ⟨k, s, t⟩ ⟨hk, he, ht, hs⟩
  simp only at hk he ht hs
  by_cases hlt : k < w.length
  · have hst := prF_step hlt s t
    rw [he] at hst
    (repeat' ((conv => whnf); first | refine CondVC.t ?_ | refine CondVC.f ?_ | refine CondVC.dec (fun h => ?_) (fun h => ?_) | refine CondVC.ndec (fun h => ?_) (fun h => ?_) | refine CondVC.mk (fun h => ?_) (fun h => ?_) | refine ArVC.i64 (by first | omega | (simp only; omega)) ?_ | refine SideVC.mk (by first | omega | decide | (simp only; omega) | (simp [slS]; done) | (simp [slS]; omega) | (simp only [byteE_len, mvE_len, strE_len, intE_len, esC_len, List.length_cons, List.length_nil, List.length_append, List.length_replicate, List.length_set, Int.toNat_natCast, and_true] at *; omega)) ?_ | refine LoopN.go ?_ | exact trivial | refine AltVC.mk ?_ ?_ | refine HeldVC.mk rfl ?_ | refine OpVC.more tt_ok ?_ | refine RestVC.ext tt_ok ?_)); all_goals (conv => whnf)
    all_goals simp only [Int.toNat_natCast, u8_84, u8_70] at *
    all_goals first
      | (exfalso; omega)
      | exact ⟨(k + 1, s, t + 1), ⟨by simp only; omega, by simp only; rw [hst, if_pos (by assumption)], by simp only; omega, by simp only; omega⟩, by simp only; omega, Sub.mk [] _ ⟨rfl, rfl, rfl, rfl, rfl, trivial⟩ rfl rfl⟩
      | exact ⟨(k + 1, s + t, t), ⟨by simp only; omega, by simp only; rw [hst, if_neg (by assumption), if_pos (by assumption)], by simp only; omega, by simp only; omega⟩, by simp only; omega, Sub.mk [] _ ⟨rfl, rfl, rfl, rfl, rfl, trivial⟩ rfl rfl⟩
      | exact ⟨(k + 1, s, t), ⟨by simp only; omega, by simp only; rw [hst, if_neg (by assumption), if_neg (by assumption)], by simp only; omega, by simp only; omega⟩, by simp only; omega, Sub.mk [] _ ⟨rfl, rfl, rfl, rfl, rfl, trivial⟩ rfl rfl⟩
  · have hd : w.drop k = [] := List.drop_eq_nil_of_le (by omega)
    rw [hd] at he
    have he : s = prF w 0 0 := he
    (repeat' ((conv => whnf); first | refine CondVC.t ?_ | refine CondVC.f ?_ | refine CondVC.dec (fun h => ?_) (fun h => ?_) | refine CondVC.ndec (fun h => ?_) (fun h => ?_) | refine CondVC.mk (fun h => ?_) (fun h => ?_) | refine ArVC.i64 (by first | omega | (simp only; omega)) ?_ | refine SideVC.mk (by first | omega | decide | (simp only; omega) | (simp [slS]; done) | (simp [slS]; omega) | (simp only [byteE_len, mvE_len, strE_len, intE_len, esC_len, List.length_cons, List.length_nil, List.length_append, List.length_replicate, List.length_set, Int.toNat_natCast, and_true] at *; omega)) ?_ | refine LoopN.go ?_ | exact trivial | refine AltVC.mk ?_ ?_ | refine HeldVC.mk rfl ?_ | refine OpVC.more tt_ok ?_ | refine RestVC.ext tt_ok ?_)); all_goals (conv => whnf)
    all_goals first
      | (exfalso; omega)
      | exact RetVC.res (by rw [he]; rfl) rfl
theorem liPairs_spec (w : Tx) (hw : w.length ≤ 1000) : Spec Tryd.prog 123 [.c (.str w)] [] (isRes [i64 (prF w 0 0 : Nat)] []) := by
  refine Spec.of_wpx tt_ok Tryd.func123 (by kernel_rfl) rfl ?_
  (repeat' ((conv => whnf); first | refine CondVC.t ?_ | refine CondVC.f ?_ | refine CondVC.dec (fun h => ?_) (fun h => ?_) | refine CondVC.ndec (fun h => ?_) (fun h => ?_) | refine CondVC.mk (fun h => ?_) (fun h => ?_) | refine ArVC.i64 (by first | omega | (simp only; omega)) ?_ | refine SideVC.mk (by first | omega | decide | (simp only; omega) | (simp [slS]; done) | (simp [slS]; omega) | (simp only [byteE_len, mvE_len, strE_len, intE_len, esC_len, List.length_cons, List.length_nil, List.length_append, List.length_replicate, List.length_set, Int.toNat_natCast, and_true] at *; omega)) ?_ | refine LoopN.go ?_ | exact trivial | refine AltVC.mk ?_ ?_ | refine HeldVC.mk rfl ?_ | refine OpVC.more tt_ok ?_ | refine RestVC.ext tt_ok ?_)); all_goals (conv => whnf)
  refine LoopVC.mk (G := Nat × Nat × Nat) (fun γ => ⟨[(5, .v (i64 γ.1)), (4, .v (i64 γ.2.2)), (3, .v (i64 γ.2.1)), (0, .v (.c (.str w)))], []⟩)
    (fun γ => γ.1 ≤ w.length ∧ prF (w.drop γ.1) γ.2.1 γ.2.2 = prF w 0 0 ∧ γ.2.2 ≤ γ.1 ∧ γ.2.1 ≤ γ.1 * 1000) (fun γ => w.length - γ.1) (0, 0, 0) ⟨Nat.zero_le _, rfl, Nat.le_refl _, Nat.zero_le _⟩ (Sub.mk [] [] ⟨rfl, rfl, rfl, rfl, trivial⟩ rfl rfl) ?_
  rintro ⟨k, s, t⟩ ⟨hk, he, ht, hs⟩
  simp only at hk he ht hs
  by_cases hlt : k < w.length
  · have hst := prF_step hlt s t
    rw [he] at hst
    (repeat' ((conv => whnf); first | refine CondVC.t ?_ | refine CondVC.f ?_ | refine CondVC.dec (fun h => ?_) (fun h => ?_) | refine CondVC.ndec (fun h => ?_) (fun h => ?_) | refine CondVC.mk (fun h => ?_) (fun h => ?_) | refine ArVC.i64 (by first | omega | (simp only; omega)) ?_ | refine SideVC.mk (by first | omega | decide | (simp only; omega) | (simp [slS]; done) | (simp [slS]; omega) | (simp only [byteE_len, mvE_len, strE_len, intE_len, esC_len, List.length_cons, List.length_nil, List.length_append, List.length_replicate, List.length_set, Int.toNat_natCast, and_true] at *; omega)) ?_ | refine LoopN.go ?_ | exact trivial | refine AltVC.mk ?_ ?_ | refine HeldVC.mk rfl ?_ | refine OpVC.more tt_ok ?_ | refine RestVC.ext tt_ok ?_)); all_goals (conv => whnf)
    all_goals simp only [Int.toNat_natCast, u8_84, u8_70] at *
    all_goals first
      | (exfalso; omega)
      | exact ⟨(k + 1, s, t + 1), ⟨by simp only; omega, by simp only; rw [hst, if_pos (by assumption)], by simp only; omega, by simp only; omega⟩, by simp only; omega, Sub.mk [] _ ⟨rfl, rfl, rfl, rfl, trivial⟩ rfl rfl⟩
      | exact ⟨(k + 1, s + t, t), ⟨by simp only; omega, by simp only; rw [hst, if_neg (by assumption), if_pos (by assumption)], by simp only; omega, by simp only; omega⟩, by simp only; omega, Sub.mk [] _ ⟨rfl, rfl, rfl, rfl, trivial⟩ rfl rfl⟩
      | exact ⟨(k + 1, s, t), ⟨by simp only; omega, by simp only; rw [hst, if_neg (by assumption), if_neg (by assumption)], by simp only; omega, by simp only; omega⟩, by simp only; omega, Sub.mk [] _ ⟨rfl, rfl, rfl, rfl, trivial⟩ rfl rfl⟩
  · have hd : w.drop k = [] := List.drop_eq_nil_of_le (by omega)
    rw [hd] at he
    have he : s = prF w 0 0 := he
    (repeat' ((conv => whnf); first | refine CondVC.t ?_ | refine CondVC.f ?_ | refine CondVC.dec (fun h => ?_) (fun h => ?_) | refine CondVC.ndec (fun h => ?_) (fun h => ?_) | refine CondVC.mk (fun h => ?_) (fun h => ?_) | refine ArVC.i64 (by first | omega | (simp only; omega)) ?_ | refine SideVC.mk (by first | omega | decide | (simp only; omega) | (simp [slS]; done) | (simp [slS]; omega) | (simp only [byteE_len, mvE_len, strE_len, intE_len, esC_len, List.length_cons, List.length_nil, List.length_append, List.length_replicate, List.length_set, Int.toNat_natCast, and_true] at *; omega)) ?_ | refine LoopN.go ?_ | exact trivial | refine AltVC.mk ?_ ?_ | refine HeldVC.mk rfl ?_ | refine OpVC.more tt_ok ?_ | refine RestVC.ext tt_ok ?_)); all_goals (conv => whnf)
    all_goals first
      | (exfalso; omega)
      | exact RetVC.res (by rw [he]; rfl) rfl

/-! ### Values -/
def sgI (b : UInt8) : Nat := if b = 46 then 0 else if b = 70 then 1 else 2
theorem okCh_cases {b : UInt8} (h : okCh b = true) : b = 46 ∨ b = 70 ∨ b = 84 := by
  simp only [okCh, Bool.or_eq_true, decide_eq_true_eq] at h
  rcases h with h | h | h <;> simp [h]
theorem signI_spec (b : UInt8) (h : okCh b = true) : Spec Tryd.prog 138 [.c (.str [46, 70, 84]), .c (.int .u8 (b.toNat : Nat))] [] (isRes [.c (.int .i64 (sgI b))] []) := by
  have h1 := indexByte_spec [46, 70, 84] b
  rcases okCh_cases h with rfl | rfl | rfl <;> exact h1
theorem pzSign_spec (b : UInt8) (h : okCh b = true) : Spec Tryd.prog 168 [.c (.str [46, 70, 84]), .c (.str [b])] [] (isRes [i64 (sgI b)] []) := by
  rcases okCh_cases h with rfl | rfl | rfl
  all_goals
    refine Spec.of_wpx tt_ok Tryd.func168 (by kernel_rfl) rfl ?_
    (repeat' ((conv => whnf); first | refine CondVC.t ?_ | refine CondVC.f ?_ | refine CondVC.dec (fun h => ?_) (fun h => ?_) | refine CondVC.ndec (fun h => ?_) (fun h => ?_) | refine CondVC.mk (fun h => ?_) (fun h => ?_) | refine ArVC.i64 (by first | omega | (simp only; omega)) ?_ | refine SideVC.mk (by first | omega | decide | (simp only; omega) | (simp [slS]; done) | (simp [slS]; omega) | (simp only [byteE_len, mvE_len, strE_len, intE_len, esC_len, List.length_cons, List.length_nil, List.length_append, List.length_replicate, List.length_set, Int.toNat_natCast, and_true] at *; omega)) ?_ | refine LoopN.go ?_ | exact trivial | refine AltVC.mk ?_ ?_ | refine HeldVC.mk rfl ?_ | refine LoopVC.rounds 4 ?_ | refine NextVC.mk (fun hx => ?_) (fun hx => ?_) | refine And.intro (by decide) ?_ | refine OpVC.more tt_ok ?_ | refine RestVC.ext tt_ok ?_)); all_goals (conv => whnf)
    all_goals first | exact RetVC.res rfl rfl | (exfalso; simp_all; done)
theorem pzOut_spec (o : Nat) (h : o < 4) : Spec Tryd.prog 168 [.c (.str [49, 50, 70, 84]), .c (.str (outS o))] [] (isRes [i64 o] []) := by
  have h4 : o = 0 ∨ o = 1 ∨ o = 2 ∨ o = 3 := by omega
  rcases h4 with rfl | rfl | rfl | rfl
  all_goals
    unfold outS
    refine Spec.of_wpx tt_ok Tryd.func168 (by kernel_rfl) rfl ?_
    (repeat' ((conv => whnf); first | refine CondVC.t ?_ | refine CondVC.f ?_ | refine CondVC.dec (fun h => ?_) (fun h => ?_) | refine CondVC.ndec (fun h => ?_) (fun h => ?_) | refine CondVC.mk (fun h => ?_) (fun h => ?_) | refine ArVC.i64 (by first | omega | (simp only; omega)) ?_ | refine SideVC.mk (by first | omega | decide | (simp only; omega) | (simp [slS]; done) | (simp [slS]; omega) | (simp only [byteE_len, mvE_len, strE_len, intE_len, esC_len, List.length_cons, List.length_nil, List.length_append, List.length_replicate, List.length_set, Int.toNat_natCast, and_true] at *; omega)) ?_ | refine LoopN.go ?_ | exact trivial | refine AltVC.mk ?_ ?_ | refine HeldVC.mk rfl ?_ | refine LoopVC.rounds 5 ?_ | refine NextVC.mk (fun hx => ?_) (fun hx => ?_) | refine And.intro (by decide) ?_ | refine OpVC.more tt_ok ?_ | refine RestVC.ext tt_ok ?_)); all_goals (conv => whnf)
    all_goals first | exact RetVC.res rfl rfl | (exfalso; simp_all; done)
end Go.Proofs.YtmdipjoogcdngaaDoor.X
