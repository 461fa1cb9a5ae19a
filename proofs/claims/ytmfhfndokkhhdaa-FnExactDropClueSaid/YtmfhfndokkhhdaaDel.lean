/- A slice's elements taken out in place. No condition. -/
import Derived.Test.YtmfhfndokkhhdaaQueue
namespace Go.Proofs.Ytmfhfndokkhhdaa.X
open Go.RowKit
set_option linter.unusedVariables false
set_option linter.unusedSimpArgs false

section
variable {P : Program} {tt : Ty} {N : Nat} {D0 : List Nat} {o : Oper} {env : Env} {mem : Mem} {k : St → Prop}

theorem SatA.putOff {N : Nat} {ρ : Nm} {env : Env} {a : Act} {d : Nat} {v : Value} (h : SatA N ρ env a) (hd : dstOk N (some d) = true) (hl : look env d = none) : SatA N ρ env (a.put (some d) v) := by
  have h1 := h.put hd (.v (.c (.val v)))
  refine ⟨h1.dfr, h1.size, fun d' e he => ?_⟩
  by_cases e1 : d = d'
  · subst e1; rw [hl] at he; cases he
  · have := h1.env d' e (by show look ((d, _) :: env) d' = _; rw [look_cons_ne _ _ e1]; exact he)
    exact this

/-- A full slice expression whose value is not looked at. -/
theorem RestVC2.sliceMax (ht : TyOk P tt) {T d r : Nat} {x l h m : Operand} {e e' : TypeId} {sz : Nat} {k1 k2 k3 : IntKind} {a b c : Int} {es : List (List C)} (ho : o.op = .slice T x (some l) (some h) (some m)) (hdst : o.dst = some d) (hty : tyElem tt T = some (e', sz))
    (hx : ev env x = some (.v (.c (.sl r)))) (hl : ev env l = some (.v (.c (.int k1 a)))) (hh : ev env h = some (.v (.c (.int k2 b)))) (hm : ev env m = some (.v (.c (.int k3 c)))) (hr : look mem r = some (.sl e sz es)) (hn : 0 ≤ a ∧ a ≤ b ∧ b ≤ c ∧ c ≤ es.length) (hoff : look env d = none)
    (hk : k ⟨env, mem⟩) : RestVC2 P N D0 o env mem k := by
  refine ⟨⟨?_⟩⟩
  intro X ρ ac w next Q hX hd hA hW hkk
  obtain ⟨hu, inf, hi1, hi2⟩ := tyElem_ok ht hty
  obtain ⟨F, hF, hF0⟩ := hW.mem
  obtain ⟨F1, hR, _⟩ := hF.get hr
  obtain ⟨q1, q2, q3, q4⟩ := row_ok hR (.sl e)
  obtain ⟨an, rfl⟩ := Int.eq_ofNat_of_zero_le hn.1
  obtain ⟨bn, rfl⟩ := Int.eq_ofNat_of_zero_le (show 0 ≤ b by omega)
  obtain ⟨cn, rfl⟩ := Int.eq_ofNat_of_zero_le (show 0 ≤ c by omega)
  have hd' : dstOk N (some d) = true := hdst ▸ hd
  have hb : ∀ w, (Instr.sliceBounds true (ρ.rn r) (ρ.rc r) (some (.int k1 an)) (some (.int k2 bn)) (some (.int k3 cn))).run P w = .ok (an, bn, cn) w := fun w => by
    have h1 : an ≤ bn := by omega
    have h2 : bn ≤ cn := by omega
    have h3 : cn ≤ ρ.rc r := by omega
    simp [Instr.sliceBounds, Instr.sliceBound, asIntOf, h1, h2, h3]
  have hrun : ∃ v, (execOp ac.eval o).run P w = .ok (.value v) w := by
    have e1 : ac.eval x = C.den ρ (.sl r) := ev_den hA hx
    have e2 : ac.eval l = .int k1 an := ev_den hA hl
    have e3 : ac.eval h = .int k2 bn := ev_den hA hh
    have e4 : ac.eval m = .int k3 cn := ev_den hA hm
    refine ⟨.slice (if cn = an then ρ.rb r else (ρ.rb r).map (·.add (an * sz))) (bn - an) (cn - an), ?_⟩
    simp only [execOp, ho, e1, e2, e3, e4, Option.map_some, C.den]
    simp [Instr.sliceAt, Instr.slice, run_underlying hu, hb, sizeOf, typeInfo, hi1, hi2]
  obtain ⟨v, hrun⟩ := hrun
  unfold Oper.wp
  rw [hrun, Oper.upon_value, hdst]
  exact hkk _ ρ _ _ hk (hA.putOff hd' hoff) hW

/-- The rest of a row moved to the front. -/
theorem RestVC2.appendIn (ht : TyOk P tt) {T d r i j m : Nat} {s y : Operand} {e : TypeId} {by_ sz : Nat} {zc : List C} {es : List (List C)} (ho : o.op = .call ⟨.builtin .append, #[s, y], #[T, T]⟩) (hdst : o.dst = some d) (hty : tyElemZ tt T = some (e, sz, by_, zc))
    (hs : ev env s = some (.v (.c (.sub r 0 sz i)))) (hy : ev env y = some (.v (.c (.sub r j sz m)))) (hr : look mem r = some (.sl e sz es)) (hj : j + m = es.length) (hi : i + m ≤ es.length) (h0 : 0 < es.length)
    (h : k ⟨(d, .v (.c (.sub r 0 sz (i + m)))) :: env, memSet mem r (.sl e sz (es.take i ++ es.drop j ++ es.drop (i + m)))⟩) : RestVC2 P N D0 o env mem k := by
  refine ⟨⟨?_⟩⟩
  intro X ρ a w next Q hX hd hA hW hk
  subst hX
  have hd' : dstOk N (some d) = true := hdst ▸ hd
  obtain ⟨hu, inf, z, hinf, hz, hsz, hby, hzs, hpos, hb1, hzl, hzp, hzd⟩ := tyElemZ_ok ht hty
  obtain ⟨rst, hp1, hp2⟩ := memSet_perm hr
  obtain ⟨F, hF, hF0⟩ := hW.mem
  obtain ⟨F1, F2, g1, g2, hR, g4⟩ := hF.perm hp1
  obtain ⟨hpl, hrn, hown⟩ := hR
  obtain ⟨hFb, hlen, hown⟩ := hown.resolve_right fun h => by
    rw [h.2.1] at h0
    simp at h0
  rcases hown with ⟨_, h00⟩ | ⟨g, cap, cur, hv, _, hg, hnc, hcm, hcs, htk⟩
  · omega
  simp only [C.den, Value.slice.injEq] at hv
  obtain ⟨hb, _, hcap⟩ := hv
  have hfl := flat_length ρ hpl
  have hcap0 : ¬ cap = 0 := by omega
  have es1 : a.eval s = .slice (some ⟨g, 0, none⟩) i cap := by
    rw [show a.eval s = C.den ρ (.sub r 0 sz i) from ev_den hA hs, sub_den_off hb, hcap, if_neg hcap0, Nat.zero_mul, Nat.sub_zero]
  have ey1 : a.eval y = .slice (some (if cap = j then (⟨g, 0, none⟩ : Addr) else ⟨g, j * sz, none⟩)) m (cap - j) := by
    rw [show a.eval y = C.den ρ (.sub r j sz m) from ev_den hA hy, sub_den_off hb, hcap]
    congr 1
    split <;> rfl
  have hnl : (flat ρ (es.drop j)).length = m * inf.size := by rw [flat_length ρ (plain_drop hpl j), List.length_drop, hsz]; congr 1; omega
  have hnews : ∀ q u, (flat ρ (es.drop j))[q]? = some u → w.cell? ((if cap = j then (⟨g, 0, none⟩ : Addr) else ⟨g, j * sz, none⟩).add q) = some u := by
    intro q u hq
    rw [flat_dropL ρ hpl (by omega), List.getElem?_drop, ← htk, List.getElem?_take] at hq
    split at hq
    · rename_i hlt
      split
      · exfalso
        have h3 : j = es.length := by omega
        rw [h3] at hlt
        omega
      · rw [add_none, cell_of_heap hg, ← Array.getElem?_toList]; exact hq
    · cases hq
  have hone : ∀ u ∈ flat ρ (es.drop j), u.oneCell' = true := fun u hu => by
    obtain ⟨c, hc, rfl⟩ := List.mem_map.1 hu
    obtain ⟨x, hx, hcx⟩ := List.mem_flatten.1 hc
    exact C.one_den ρ ((plain_drop hpl j x hx).2 c hcx).2
  have hfit : i * inf.size + (flat ρ (es.drop j)).length ≤ cur.size := by rw [hnl, hsz, hcs, ← Nat.add_mul]; exact Nat.mul_le_mul_right _ (by omega)
  have hr1 := run_append_room (P := P) w T o.type e inf hu hinf g i cap cur hg _ m (cap - j) (flat ρ (es.drop j)) hnl hnews hone (by omega) hfit
  have hrun : (execOp a.eval o).run P w = .ok (.value (.slice (some ⟨g, 0, none⟩) (i + m) cap)) (w.setRow g (cur.toList.take (i * inf.size) ++ flat ρ (es.drop j) ++ cur.toList.drop (i * inf.size + (flat ρ (es.drop j)).length)).toArray) := by
    simp only [execOp, ho, resolve, invoke, builtin, Sem.run_bind, Sem.run_pure, Result.andThen_ok, List.map_toArray, List.map_cons, List.map_nil, es1, ey1, hr1]
  have hFg : ∀ b, F1 b ↔ b = g := fun b => by rw [hFb b]; simp [C.den, hb, Value.ownBlock, eq_comm]
  unfold Oper.wp
  rw [hrun, Oper.upon_value, hdst]
  refine hk _ ρ _ _ h ?_ ?_
  · have := hA.put hd' (.v (.c (.sub r 0 sz (i + m))))
    rw [show E.den ρ (.v (.c (.sub r 0 sz (i + m)))) = .slice (some ⟨g, 0, none⟩) (i + m) cap from (by
      show C.den ρ (.sub r 0 sz (i + m)) = _
      rw [sub_den_off hb, hcap, if_neg hcap0, Nat.zero_mul, Nat.sub_zero])] at this
    exact this
  · have hlen2 : (es.take i ++ es.drop j ++ es.drop (i + m)).length = es.length := by simp only [List.length_append, List.length_take, List.length_drop]; omega
    have hpl2 : plainEs sz (es.take i ++ es.drop j ++ es.drop (i + m)) := plain_append (plain_append (plain_take hpl i) (plain_drop hpl j)) (plain_drop hpl (i + m))
    refine SatW.perm (hp2 _) (hW.write (w' := w.setRow g (cur.toList.take (i * inf.size) ++ flat ρ (es.drop j) ++ cur.toList.drop (i * inf.size + (flat ρ (es.drop j)).length)).toArray) hp1 rfl rfl rfl (by simp [World.setRow]) fun F' hR' => ?_)
    have hF' : ∀ b, F' b ↔ b = g := fun b => by
      obtain ⟨_, _, ⟨k1, _⟩ | ⟨_, k2, _⟩⟩ := hR'
      · rw [k1 b]; simp [C.den, hb, Value.ownBlock, eq_comm]
      · rw [k2] at h0; simp at h0
    refine ⟨F', ⟨hpl2, by rw [hlen2]; exact hrn, .inl ⟨fun b => by rw [hF' b]; simp [C.den, hb, Value.ownBlock, eq_comm], ?_⟩⟩, fun b hb' => hb', fun b hb' hn => setRow_other w g b _ fun e => hn ((hF' b).2 e)⟩
    refine ⟨flat_length ρ hpl2, .inr ⟨g, cap, _, by rw [hlen2]; simp [C.den, hb, hrn, hcap], Nat.zero_le _, setRow_heap w g cur _ e _ hg, by omega, hcm, ?_, ?_⟩⟩
    · simp only [List.size_toArray, List.length_append, List.length_take, List.length_drop, Array.length_toList]
      omega
    · rw [hlen2]
      have e1 : cur.toList.take (i * sz) = flat ρ (es.take i) := by
        rw [flat_take' ρ hpl (by omega), ← htk, List.take_take, Nat.min_eq_left (Nat.mul_le_mul_right _ (by omega))]
      have e2 : i * sz + m * sz = (i + m) * sz := (Nat.add_mul _ _ _).symm
      simp only [hsz, hnl, e1, e2]
      rw [flat_app, flat_app]
      have e3 : (flat ρ (es.take i) ++ flat ρ (es.drop j)).length = (i + m) * sz := by
        rw [List.length_append, flat_length ρ (plain_take hpl i), hnl, hsz, List.length_take, Nat.min_eq_left (by omega), Nat.add_mul]
      rw [List.take_append]
      rw [List.take_of_length_le (by rw [e3]; exact Nat.mul_le_mul_right _ hi), e3]
      congr 1
      rw [flat_dropL ρ hpl hi, ← htk, List.drop_take, ← Nat.sub_mul]

/-- A row cut short, cut out of the whole. -/
theorem RestVC2.subCap (ht : TyOk P tt) {T r n : Nat} {x l h : Operand} {e e' : TypeId} {sz : Nat} {k1 k2 : IntKind} {a b : Int} {es : List (List C)} (ho : o.op = .slice T x (some l) (some h) none) (hty : tyElem tt T = some (e', sz))
    (hx : ev env x = some (.v (.c (.sub r 0 sz n)))) (hl : ev env l = some (.v (.c (.int k1 a)))) (hh : ev env h = some (.v (.c (.int k2 b)))) (hr : look mem r = some (.sl e sz es)) (hn : 0 ≤ a ∧ a ≤ b ∧ b ≤ es.length)
    (hk : k ⟨putE env o.dst (.v (.c (.sub r a.toNat sz (b.toNat - a.toNat)))), mem⟩) : RestVC2 P N D0 o env mem k := by
  refine ⟨⟨?_⟩⟩
  intro X ρ ac w next Q hX hd hA hW hkk
  obtain ⟨hu, inf, hi1, hi2⟩ := tyElem_ok ht hty
  obtain ⟨F, hF, hF0⟩ := hW.mem
  obtain ⟨F1, hR, _⟩ := hF.get hr
  obtain ⟨q1, q2, q3, q4⟩ := row_ok hR (.sl e)
  obtain ⟨an, rfl⟩ := Int.eq_ofNat_of_zero_le hn.1
  obtain ⟨bn, rfl⟩ := Int.eq_ofNat_of_zero_le (show 0 ≤ b by omega)
  have hb : ∀ w, (Instr.sliceBounds true n (ρ.rc r - 0) (some (.int k1 an)) (some (.int k2 bn)) none).run P w = .ok (an, bn, ρ.rc r - 0) w := fun w => by
    have h1 : an ≤ bn := by omega
    have h2 : bn ≤ ρ.rc r := by omega
    have h3 : (bn : Int) ≤ (ρ.rc r : Int) := by omega
    simp [Instr.sliceBounds, Instr.sliceBound, asIntOf, h1, h2, h3]
  have e1 : ac.eval x = C.den ρ (.sub r 0 sz n) := ev_den hA hx
  have e2 : ac.eval l = .int k1 an := ev_den hA hl
  have e3 : ac.eval h = .int k2 bn := ev_den hA hh
  refine value_wp (st := ⟨env, mem⟩) (e := .v (.c (.sub r (an : Int).toNat sz ((bn : Int).toNat - (an : Int).toNat)))) (kk := k) hd hA hW ?_ hk hkk
  have hbase : (if ρ.rc r = 0 then ρ.rb r else (ρ.rb r).map (·.add (0 * sz))) = ρ.rb r := by
    split
    · rfl
    · cases ρ.rb r with
      | none => rfl
      | some ad => simp [Addr.add]
  simp only [execOp, ho, e1, e2, e3, Option.map_some, Option.map_none, C.den, E.den, V.den, hbase, Int.toNat_natCast]
  simp [Instr.sliceAt, Instr.slice, run_underlying hu, hb, sizeOf, typeInfo, hi1, hi2]
  have := hb w
  simp at this
  simp [this]
end
end Go.Proofs.Ytmfhfndokkhhdaa.X
