/- Arrays of three whole numbers in boxes: built, compared, addressed. No condition. -/
import Derived.Test.YtblihaicbhdbdaaCntF
import Derived.ChangeKeysEq
import Derived.Laws.StructEq
import Derived.Laws.Tables
namespace Go.Proofs.Ytblihaicbhdbdaa.X
open Go.Proofs
set_option maxRecDepth 100000
set_option linter.unusedVariables false
set_option linter.unusedSimpArgs false
structure Arr3 (P : Program) (T e : TypeId) : Prop where
  u : P.underlying T = some (.array 3 e)
  v : P.underlying e = some (.int .i64)
  i : ∃ i, P.info? e = some i ∧ i.size = 1
section
variable {P : Program} {tt : Ty} {N : Nat} {D0 : List Nat} {o : Oper} {env : Env} {mem : Mem} {k : St → Prop}
theorem RestVC2.indexArr {T e : TypeId} (hT : Arr3 P T e) {x y : Operand} {r : Nat} {kd : IntKind} {n : Int} (ho : o.op = .indexAddr T x y) (hx : ev env x = some (.v (.c (.ptr r 0)))) (hy : ev env y = some (.v (.c (.int kd n))))
    (hn : 0 ≤ n ∧ n < 3) (h : k ⟨putE env o.dst (.v (.c (.ptr r n.toNat))), mem⟩) : RestVC2 P N D0 o env mem k := by
  refine ⟨⟨?_⟩⟩
  intro X ρ a w next Q hX hd hA hW hk
  refine value_wp (st := ⟨env, mem⟩) (e := .v (.c (.ptr r n.toNat))) (kk := k) hd hA hW ?_ h hk
  obtain ⟨i, hi1, hi2⟩ := hT.i
  simp only [execOp, ho, ev_den hA hx, ev_den hA hy, E.den, V.den, C.den]
  simp [Instr.indexAt, asIntOf, run_underlying hT.u, Instr.sureAddr, hn, sizeOf, typeInfo, hi1, hi2, Addr.add]
  omega
theorem run_eqArr {T e : TypeId} (hT : Arr3 P T e) (a b c a' b' c' : Int) (w : World) :
    (Op.equalIn 10000 T (.agg #[.int .i64 a, .int .i64 b, .int .i64 c]) (.agg #[.int .i64 a', .int .i64 b', .int .i64 c'])).run P w = .ok (decide (a = a' ∧ b = b' ∧ c = c')) w := by
  obtain ⟨i, hi1, hi2⟩ := hT.i
  have hA : ∀ w, (isAgg e).run P w = .ok false w := fun w => by unfold isAgg; simp [run_underlying hT.v]
  have hc : P.cellsOf e = 1 := by simp [Program.cellsOf, hi1, hi2]
  rw [show (10000 : Nat) = 9999 + 1 from rfl, run_equalIn_array (w := w) 9999 _ _ hT.u hi1, hc]
  simp only [show List.range 3 = [0, 1, 2] from rfl, Op.eqItems, part, hA, Sem.run_bind, Result.andThen_ok]
  by_cases h1 : a = a'
  · by_cases h2 : b = b'
    · by_cases h3 : c = c'
      · simp [h1, h2, h3, hA, part, run_equalIn_int _ _ _ _ _ _ _ hT.v]
      · simp [h1, h2, h3, hA, part, run_equalIn_int _ _ _ _ _ _ _ hT.v]
    · simp [h1, h2, hA, part, run_equalIn_int _ _ _ _ _ _ _ hT.v]
  · simp [h1, hA, part, run_equalIn_int _ _ _ _ _ _ _ hT.v]
theorem RestVC2.eqArr {T e : TypeId} (hT : Arr3 P T e) (hg : P.eqGuardType P.depth T = false) {x y : Operand} {yt : TypeId} {a b c a' b' c' : Int} (q : Bool) (ho : o.op = .binOp .eql T x y yt)
    (hx : ev env x = some (.v (.agg [.int .i64 a, .int .i64 b, .int .i64 c]))) (hy : ev env y = some (.v (.agg [.int .i64 a', .int .i64 b', .int .i64 c'])))
    (hq : decide (a = a' ∧ b = b' ∧ c = c') = q) (h : k ⟨putE env o.dst (.v (.c (.bool q))), mem⟩) : RestVC2 P N D0 o env mem k := by
  refine ⟨⟨?_⟩⟩
  intro X ρ ac w next Q hX hd hA hW hk
  refine value_wp (st := ⟨env, mem⟩) (e := .v (.c (.bool q))) (kk := k) hd hA hW ?_ h hk
  simp only [execOp, ho, ev_den hA hx, ev_den hA hy, E.den, V.den, C.den, List.map_cons, List.map_nil, Sem.run_bind, run_eqGuard_agg _ _ _ _ _ _ _ hg, Result.andThen_ok, run_eql_struct, run_eqArr hT, hq]
  rfl
theorem RestVC2.buildArr {T : TypeId} {parts : Array (Nat × Operand)} {vs : List (Nat × V)} (cs : List C) (ho : o.op = .build T parts) (hv : evParts env parts.toList = some vs)
    (hb : ∀ ρ : Nm, P.built T (vs.map fun x => (x.1, x.2.den ρ)) = some (cs.map (C.den ρ)).toArray) (h : k ⟨putE env o.dst (.v (.agg cs)), mem⟩) : RestVC2 P N D0 o env mem k := by
  refine ⟨⟨?_⟩⟩
  intro X ρ ac w next Q hX hd hA hW hk
  refine value_wp (st := ⟨env, mem⟩) (e := .v (.agg cs)) (kk := k) hd hA hW ?_ h hk
  have hparts : (parts.map fun (x : Nat × Operand) => (x.1, ac.eval x.2)).toList = vs.map fun x => (x.1, x.2.den ρ) := by
    rw [Array.toList_map]; exact evParts_den hA hv
  have h1 := run_build (P := P) w T (parts.map fun (i, x) => (i, ac.eval x)) _ (by rw [show (parts.map fun (i, x) => (i, ac.eval x)).toList = vs.map fun x => (x.1, x.2.den ρ) from hparts]; exact hb ρ)
  simp only [execOp, ho, E.den, V.den, Sem.run_bind]
  rw [h1]
  rfl
end
end Go.Proofs.Ytblihaicbhdbdaa.X
