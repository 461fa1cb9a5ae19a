/- Rows of rows: the operations of the walk on them. No condition. -/
import Derived.Test.YtblihaicbhdbdaaDoorNest
namespace Go.Proofs.YtblihaicbhdbdaaDoor.X
open Go.RowKit
set_option linter.unusedVariables false
set_option linter.unusedSimpArgs false

section
variable {P : Program} {tt : Ty} {N : Nat} {D0 : List Nat} {o : Oper} {env : Env} {mem : Mem} {k : St → Prop}

theorem addZ (g j : Nat) : (⟨g, 0, none⟩ : Addr).add j = ⟨g, j, none⟩ := (add_none g 0 j).trans (by simp)

/-- A row's cells. -/
theorem slAt.cells {ρ : Nm} {p : Option Addr × Nat × Nat} {T : TypeId} {sz : Nat} {es : List (List C)} {w : World} {F : Nat → Prop} (h : slAt ρ (hdr p) T sz es w F) (h0 : 0 < es.length) :
    ∃ a, p.1 = some a ∧ ∀ j u, (flat ρ es)[j]? = some u → w.cell? (a.add j) = some u := by
  obtain ⟨h1, ⟨_, hlen, hown⟩ | ⟨_, rfl, _⟩⟩ := h
  · rcases hown with ⟨hv, h0'⟩ | ⟨g, cap, cur, hv, _, hg, hnc, _, hcs, htk⟩
    · omega
    · simp only [hdr, Value.slice.injEq] at hv
      refine ⟨_, hv.1, fun j u hj => ?_⟩
      rw [addZ, cell_of_heap hg]
      rw [← htk, List.getElem?_take] at hj
      split at hj
      · rw [← Array.getElem?_toList]; exact hj
      · cases hj
  · simp at h0
/-- The heads' cells. -/
theorem nest_heads {ρ : Nm} {r : Nat} {w : World} {F : Nat → Prop} {T T2 : TypeId} {sz : Nat} {ess : List (List (List C))} {hs : List (Nat × Nat)} (h : Res.holds ρ r w F (.ext (.nest T T2 sz ess hs))) (h0 : 0 < ess.length) :
    ∃ a, ρ.rb r = some a ∧ ∀ j, j < ess.length → w.cell? (a.add j) = some (hdr (ρ.rv r j)) := by
  obtain ⟨a0, F0, F1, _, _, ⟨_, hlen, hown⟩ | ⟨_, rfl, _⟩, _⟩ := h
  · rcases hown with ⟨hv, h0'⟩ | ⟨g, cap, cur, hv, _, hg, hnc, _, hcs, htk⟩
    · omega
    · simp only [C.den, Value.slice.injEq] at hv
      refine ⟨_, hv.1, fun j hj => ?_⟩
      rw [addZ, cell_of_heap hg]
      have hj2 : (cur.toList.take (ess.length * 1))[j]? = some (hdr (ρ.rv r j)) := by rw [htk]; simp [hj]
      rw [List.getElem?_take] at hj2
      split at hj2
      · rw [← Array.getElem?_toList]; exact hj2
      · cases hj2
  · simp at h0
theorem nest_inner {ρ : Nm} {r i : Nat} {w : World} {F : Nat → Prop} {T T2 : TypeId} {sz : Nat} {ess : List (List (List C))} {es : List (List C)} (h : Res.holds ρ r w F (.ext (.nest T T2 sz ess []))) (hi : ess[i]? = some es) :
    ∃ F', (ρ.rv r i).2.1 = es.length ∧ slAt ρ (hdr (ρ.rv r i)) T2 sz es w F' := by
  obtain ⟨a0, F0, F1, _, _, _, h4⟩ := h
  obtain ⟨F', g1, _⟩ := NestIn.get h4 hi
  simp only [Nat.zero_add, holeAt] at g1
  exact ⟨F', g1.1, g1.2⟩

/-- len of an inner row. -/
theorem RestVC2.insLen (ht : TyOk P tt) {x : Operand} {T r i : Nat} {T1 T2 : TypeId} {sz : Nat} {ess : List (List (List C))} {es : List (List C)} (ho : o.op = .call ⟨.builtin .len, #[x], #[T]⟩) (hx : ev env x = some (.v (.c (.ins r i)))) (hty : tySlice tt T = true)
    (hl : look mem r = some (.ext (.nest T1 T2 sz ess []))) (hi : ess[i]? = some es) (h : k ⟨putE env o.dst (.v (.c (.int .i64 es.length))), mem⟩) : RestVC2 P N D0 o env mem k := by
  refine ⟨⟨?_⟩⟩
  intro X ρ a w next Q hX hd hA hW hk
  obtain ⟨F, hF, hF0⟩ := hW.mem
  obtain ⟨F1, hR1, _⟩ := hF.get hl
  obtain ⟨F', g1, _⟩ := nest_inner hR1 hi
  obtain ⟨e, hu⟩ := tySlice_ok ht hty
  refine value_wp (st := ⟨env, mem⟩) (e := .v (.c (.int .i64 es.length))) (kk := k) hd hA hW ?_ h hk
  have ex : a.eval x = hdr (ρ.rv r i) := ev_den hA hx
  simp only [execOp, ho, resolve, invoke, builtin, Sem.run_bind, Sem.run_pure, Result.andThen_ok, List.map_toArray, List.map_cons, List.map_nil, ex, E.den, V.den, C.den]
  simp [hdr, Builtin.len_, run_underlying hu, goInt, g1]

/-- The place of a head. -/
theorem RestVC2.nestAddr (ht : TyOk P tt) {x y : Operand} {T r : Nat} {T1 T2 e : TypeId} {sz : Nat} {ess : List (List (List C))} {kd : IntKind} {n : Int} (ho : o.op = .indexAddr T x y) (hx : ev env x = some (.v (.c (.sl r)))) (hy : ev env y = some (.v (.c (.int kd n))))
    (hl : look mem r = some (.ext (.nest T1 T2 sz ess []))) (hty : tyElem tt T = some (e, 1)) (hn : 0 ≤ n ∧ n < ess.length) (h : k ⟨putE env o.dst (.v (.c (.el r n.toNat 1 0))), mem⟩) : RestVC2 P N D0 o env mem k := by
  refine ⟨⟨?_⟩⟩
  intro X ρ a w next Q hX hd hA hW hk
  obtain ⟨F, hF, hF0⟩ := hW.mem
  obtain ⟨F1, hR1, _⟩ := hF.get hl
  obtain ⟨ad, had, _⟩ := nest_heads hR1 (by omega)
  have hrn : ρ.rn r = ess.length := hR1.1
  obtain ⟨hu, inf, hi1, hi2⟩ := tyElem_ok ht hty
  refine value_wp (st := ⟨env, mem⟩) (e := .v (.c (.el r n.toNat 1 0))) (kk := k) hd hA hW ?_ h hk
  simp only [execOp, ho, ev_den hA hx, ev_den hA hy, E.den, V.den, C.den, had, hrn]
  simp [Instr.indexAt, asIntOf, run_underlying hu, hn, sizeOf, typeInfo, hi1, hi2]

/-- A head, read. -/
theorem RestVC2.nestLoad (ht : TyOk P tt) {x : Operand} {T r i : Nat} {T1 T2 : TypeId} {sz : Nat} {ess : List (List (List C))} {v : V} (ho : o.op = .load T x) (hx : ev env x = some (.v (.c (.el r i 1 0))))
    (hl : look mem r = some (.ext (.nest T1 T2 sz ess []))) (hv : loadC tt T [.ins r i] 0 = some v) (hi : i < ess.length) (h : k ⟨putE env o.dst (.v v), mem⟩) : RestVC2 P N D0 o env mem k := by
  refine ⟨⟨?_⟩⟩
  intro X ρ a w next Q hX hd hA hW hk
  obtain ⟨F, hF, hF0⟩ := hW.mem
  obtain ⟨F1, hR1, _⟩ := hF.get hl
  obtain ⟨ad, had, hc⟩ := nest_heads hR1 (by omega)
  refine value_wp (st := ⟨env, mem⟩) (e := .v v) (kk := k) hd hA hW ?_ h hk
  have ex : a.eval x = .pointer (some (ad.add (i * 1 + 0))) := by rw [ev_den hA hx]; simp [E.den, V.den, C.den, had]
  have hrun := loadC_run ht (ρ := ρ) (ad := ad.add i) (w := w) (cs := [.ins r i]) (fun j c hj => by
    cases j with
    | zero =>
      simp only [List.getElem?_cons_zero, Option.some.injEq] at hj
      subst hj
      rw [Addr.add_add', Nat.add_zero, hc i hi]; rfl
    | succ j => simp at hj) hv
  rw [Addr.add_add', Nat.add_zero] at hrun
  simp [execOp, ho, ex, Instr.loadAt, Instr.sureAddr, hrun, E.den]

/-- The place of an inner row's element. -/
theorem RestVC2.insAddr (ht : TyOk P tt) {x y : Operand} {T r i : Nat} {T1 T2 e : TypeId} {sz : Nat} {ess : List (List (List C))} {es : List (List C)} {kd : IntKind} {n : Int} (ho : o.op = .indexAddr T x y) (hx : ev env x = some (.v (.c (.ins r i)))) (hy : ev env y = some (.v (.c (.int kd n))))
    (hl : look mem r = some (.ext (.nest T1 T2 sz ess []))) (hty : tyElem tt T = some (e, sz)) (hi : ess[i]? = some es) (hn : 0 ≤ n ∧ n < es.length) (h : k ⟨putE env o.dst (.v (.c (.eli r i n.toNat sz 0))), mem⟩) : RestVC2 P N D0 o env mem k := by
  refine ⟨⟨?_⟩⟩
  intro X ρ a w next Q hX hd hA hW hk
  obtain ⟨F, hF, hF0⟩ := hW.mem
  obtain ⟨F1, hR1, _⟩ := hF.get hl
  obtain ⟨F', g1, g2⟩ := nest_inner hR1 hi
  obtain ⟨ad, had, _⟩ := g2.cells (by omega)
  obtain ⟨hu, inf, hi1, hi2⟩ := tyElem_ok ht hty
  refine value_wp (st := ⟨env, mem⟩) (e := .v (.c (.eli r i n.toNat sz 0))) (kk := k) hd hA hW ?_ h hk
  simp only [execOp, ho, ev_den hA hx, ev_den hA hy, E.den, V.den, C.den, hdr, had, g1]
  simp [Instr.indexAt, asIntOf, run_underlying hu, hn, sizeOf, typeInfo, hi1, hi2]

theorem flat_at {ρ : Nm} {sz : Nat} : ∀ {es : List (List C)} {j q : Nat} {x : List C} {c : C}, plainEs sz es → es[j]? = some x → x[q]? = some c → (flat ρ es)[j * sz + q]? = some (c.den ρ)
  | [], j, q, x, c, _, h, _ => by simp at h
  | y :: es, 0, q, x, c, hp, h, hc => by
    simp only [List.getElem?_cons_zero, Option.some.injEq] at h
    subst h
    have hlt := (List.getElem?_eq_some_iff.1 hc).1
    simp only [flat, List.flatten_cons, List.map_append, Nat.zero_mul, Nat.zero_add]
    rw [List.getElem?_append_left (by simpa using hlt), List.getElem?_map, hc]; rfl
  | y :: es, j + 1, q, x, c, hp, h, hc => by
    have hy := (hp y (by simp)).1
    have ih := flat_at (ρ := ρ) (es := es) (j := j) (q := q) (fun z hz => hp z (by simp [hz])) (by simpa using h) hc
    simp only [flat, List.flatten_cons, List.map_append]
    rw [List.getElem?_append_right (by simp [hy, Nat.succ_mul]; omega)]
    simp only [List.length_map, hy, Nat.succ_mul]
    rw [show j * sz + sz + q - sz = j * sz + q by omega]
    exact ih

/-- An inner row's element, read. -/
theorem RestVC2.insLoad (ht : TyOk P tt) {x : Operand} {T r i j : Nat} {T1 T2 : TypeId} {sz off : Nat} {ess : List (List (List C))} {es : List (List C)} {xc : List C} {v : V} (ho : o.op = .load T x) (hx : ev env x = some (.v (.c (.eli r i j sz off))))
    (hl : look mem r = some (.ext (.nest T1 T2 sz ess []))) (hi : ess[i]? = some es) (hj : es[j]? = some xc) (hv : loadC tt T xc off = some v) (h : k ⟨putE env o.dst (.v v), mem⟩) : RestVC2 P N D0 o env mem k := by
  refine ⟨⟨?_⟩⟩
  intro X ρ a w next Q hX hd hA hW hk
  obtain ⟨F, hF, hF0⟩ := hW.mem
  obtain ⟨F1, hR1, _⟩ := hF.get hl
  obtain ⟨F', g1, g2⟩ := nest_inner hR1 hi
  have hjl := (List.getElem?_eq_some_iff.1 hj).1
  obtain ⟨ad, had, hc⟩ := g2.cells (by omega)
  refine value_wp (st := ⟨env, mem⟩) (e := .v v) (kk := k) hd hA hW ?_ h hk
  have ex : a.eval x = .pointer (some (ad.add (j * sz + off))) := by rw [ev_den hA hx]; simp [E.den, V.den, C.den, had]
  have hrun := loadC_run ht (ρ := ρ) (ad := ad.add (j * sz)) (w := w) (cs := xc) (fun q c hq => by
    rw [Addr.add_add']
    exact hc _ _ (flat_at g2.1 hj hq)) hv
  rw [Addr.add_add'] at hrun
  simp [execOp, ho, ex, Instr.loadAt, Instr.sureAddr, hrun, E.den]

/-- A row taken into a new row of rows. -/
theorem RestVC2.nestBuild (ht : TyOk P tt) {T d q : Nat} {e T2 : TypeId} {by_ sz : Nat} {zc : List C} {parts : Array (Nat × Operand)} {vs : List (Nat × V)} {es : List (List C)} {rest : Mem} (ho : o.op = .buildSlice T 1 parts) (hdst : o.dst = some d) (hty : tyElemZ tt T = some (e, 1, by_, zc))
    (hvs : evParts env parts.toList = some vs) (hfill : fillC (fun i => some (i * 1, 1)) (zerosC zc 1) vs = some [.sl q]) (hq : takeN mem q = some (.sl T2 sz es, rest)) (hqd : Nat.beq q d = false) (hfr : freshN D0 env rest d = true)
    (h : k ⟨(d, .v (.c (.sl d))) :: envMap (C.toIns q d 0) env, (d, .ext (.nest e T2 sz [es] [])) :: rest⟩) : RestVC2 P N D0 o env mem k := by
  refine ⟨⟨?_⟩⟩
  intro X ρ a w next Q hX hd hA hW hk
  subst hX
  have hqd' : q ≠ d := fun e => by rw [e] at hqd; simp at hqd
  have hfr' := freshN_spec hfr
  obtain ⟨hu, i, z, hi, hz, hsz, hby, hzs, hpos, hb1, hzl, hzp, hzd⟩ := tyElemZ_ok ht hty
  have hf := fillC_den (ρ := ρ) hfill
  have hparts : (parts.map fun (x : Nat × Operand) => (x.1, a.eval x.2)).toList = vs.map fun x => (x.1, x.2.den ρ) := by
    rw [Array.toList_map]; exact evParts_den hA hvs
  have hrun : (execOp a.eval o).run P w = .ok (.value (.slice (some ⟨w.heap.size, 0, none⟩) 1 1)) (w.alloc (.cells #[C.den ρ (.sl q)] e)) := by
    have hzeros := zeros_den ρ zc (by omega) 1
    rw [hzd ρ, hzl] at hzeros
    have : (Instr.buildSlice T 1 (parts.map fun (i, x) => (i, a.eval x))).run P w = .ok (.slice (some ⟨w.heap.size, 0, none⟩) 1 1) (w.alloc (.cells #[C.den ρ (.sl q)] e)) := by
      generalize (parts.map fun (x : Nat × Operand) => (x.1, a.eval x.2)) = qq at hparts ⊢
      refine run_buildSlice w T e 1 _ _ i z hu hi hz (by rw [hsz]; decide) (by rw [hsz]; decide) ?_
      rw [hsz, hzeros, hparts]
      exact hf
    simp [execOp, ho, this]
  let ρ' := ρ.updV d (some ⟨w.heap.size, 0, none⟩) 1 1 (fun _ => (ρ.rb q, ρ.rn q, ρ.rc q))
  have hag : ∀ r, r ≠ d → ρ.agree ρ' r := fun r h => ρ.updV_agree h
  have hden : C.den ρ' (.sl d) = .slice (some ⟨w.heap.size, 0, none⟩) 1 1 := by simp [C.den, ρ', Nm.updV]
  have hrv : ∀ j, ρ'.rv d j = (ρ.rb q, ρ.rn q, ρ.rc q) := fun j => by simp [ρ', Nm.updV]
  have hd' : dstOk N (some d) = true := hdst ▸ hd
  unfold Oper.wp
  rw [hrun, Oper.upon_value, hdst]
  refine hk _ ρ' _ _ h ?_ ?_
  · have h1 : SatA N ρ' (envMap (C.toIns q d 0) env) a := hA.mapC fun p hp c hc => by
      have hdn : d ∉ c.names := fun hd => hfr'.2.1 p hp (hc d hd)
      cases c with
      | sl r =>
        simp only [C.toIns]
        cases hb : Nat.beq r q with
        | true =>
          have := Nat.eq_of_beq_eq_true hb
          subst this
          simp [C.den, hrv, hdr]
        | false => exact C.den_ne hag hdn
      | _ => exact C.den_ne hag hdn
    have := h1.put hd' (.v (.c (.sl d)))
    simpa only [E.den, V.den, hden, putE] using this
  · refine hW.conv (m1 := [(q, .sl T2 sz es)]) (w' := w.alloc (.cells #[C.den ρ (.sl q)] e)) (takeN_perm hq) rfl rfl rfl (by simp) hag hfr'.1 hfr'.2.2 fun F hF => ?_
    obtain ⟨F1, F2, h1, h2, ⟨p1, p2, p3⟩, h4⟩ := hF
    have hlt : ∀ b, F1 b → b < w.heap.size := fun b hb => Res.holds_lt (R := .sl T2 sz es) ⟨p1, p2, p3⟩ hb
    have hsl : slAt ρ' (hdr (ρ.rb q, ρ.rn q, ρ.rc q)) T2 sz es (w.alloc (.cells #[C.den ρ (.sl q)] e)) F1 := by
      refine slAt.congr (ρ := ρ) (slAt.frame (w := w) (fun b hb => heap_alloc_ne w _ (hlt b hb)) ⟨p1, ?_⟩)
      rcases p3 with p3 | ⟨c1, c2, c3⟩
      · exact .inl p3
      · exact .inr ⟨c1, c2, ρ.rb q, by simp [hdr, p2, c2, c3]⟩
    refine ⟨fun b => b = w.heap.size ∨ F1 b, ⟨by simp [ρ', Nm.updV], (· = w.heap.size), F1, fun b => Iff.rfl, fun b k1 k2 => by have := hlt b k2; omega, .inl ⟨fun b => ?_, by simp, .inr ⟨w.heap.size, 1, #[C.den ρ (.sl q)], hden, Nat.zero_le _, heap_alloc_new w _, by simp, by simp [maxLen], by simp, ?_⟩⟩, F1, fun _ => False, fun b => by simp, fun b _ h => h, ?_, fun b h => h⟩, fun b hb => ?_, fun b hb hn => heap_alloc_ne w _ hb⟩
    · rw [hden]; simp [Value.ownBlock, eq_comm]
    · simp [hrv, hdr, C.den]
    · simp only [holeAt, InnerAt]
      rw [hrv]
      exact ⟨p2, hsl⟩
    · rcases hb with rfl | hb
      · exact .inr (Nat.le_refl _)
      · exact .inl ((h1 b).2 (.inl hb))

/-- A row of rows behind another one. -/
theorem RestVC2.nestAppend (ht : TyOk P tt) {T d r q : Nat} {s y : Operand} {e e2 T2 : TypeId} {by_ sz : Nat} {zc : List C} {ess ess2 : List (List (List C))} {rest1 rest : Mem} (ho : o.op = .call ⟨.builtin .append, #[s, y], #[T, T]⟩) (hdst : o.dst = some d) (hty : tyElemZ tt T = some (e, 1, by_, zc))
    (hs : ev env s = some (.v (.c (.sl r)))) (hy : ev env y = some (.v (.c (.sl q)))) (hr : takeN mem r = some (.ext (.nest e T2 sz ess []), rest1)) (hq : takeN rest1 q = some (.ext (.nest e2 T2 sz ess2 []), rest)) (hrd : Nat.beq r d = false) (hqd : Nat.beq q d = false) (hrq : Nat.beq q r = false)
    (hfr : freshN D0 env rest d = true) (hne : 0 < ess2.length) (hside : (ess.length + ess2.length) * by_ ≤ 140737488355328)
    (h : k ⟨(d, .v (.c (.sl d))) :: envMap (C.mvIns q d ess.length) env, (d, .ext (.nest e T2 sz (ess ++ ess2) [])) :: rest⟩) : RestVC2 P N D0 o env mem k := by
  refine ⟨⟨?_⟩⟩
  intro X ρ a w next Q hX hd hA hW hk
  subst hX
  have hrd' : r ≠ d := fun e => by rw [e] at hrd; simp at hrd
  have hqd' : q ≠ d := fun e => by rw [e] at hqd; simp at hqd
  have hrq' : q ≠ r := fun e => by rw [e] at hrq; simp at hrq
  have hfr' := freshN_spec hfr
  obtain ⟨hu, i, z, hi, hz, hsz, hby, hzs, hpos, hb1, hzl, hzp, hzd⟩ := tyElemZ_ok ht hty
  have hp : mem.Perm ([(r, .ext (.nest e T2 sz ess [])), (q, .ext (.nest e2 T2 sz ess2 []))] ++ rest) := (takeN_perm hr).trans ((takeN_perm hq).cons _)
  obtain ⟨F, hF, hF0⟩ := hW.mem
  obtain ⟨G1, G2, g1, g2, hG1, hG2⟩ := MemSat.append.1 (hF.perm hp)
  obtain ⟨Fr, Fx, x1, x2, hRr, hx⟩ := hG1
  obtain ⟨Fq, Fy, y1, y2, hRq, hyy⟩ := hx
  have hRr' := hRr
  have hRq' := hRq
  obtain ⟨r0, R0, R1, r1, r2, r3, r4⟩ := hRr
  obtain ⟨q0, Q0, Q1, q1, q2, q3, q4⟩ := hRq
  have es1 : a.eval s = C.den ρ (.sl r) := ev_den hA hs
  have ey1 : a.eval y = C.den ρ (.sl q) := ev_den hA hy
  let xs := (List.range ess.length).map fun i => hdr (ρ.rv r i)
  let news := (List.range ess2.length).map fun i => hdr (ρ.rv q i)
  obtain ⟨v', w', hrn, hgrow, hres⟩ := append_run (P := P) (w := w) (t := T) (ty := o.type) (v := C.den ρ (.sl r)) (yv := C.den ρ (.sl q)) (n := ess.length) (m := ess2.length) (xs := xs) (news := news) (row := if ess.length = 0 ∧ ρ.rc r = 0 then none else (C.den ρ (.sl r)).ownBlock) (sz := 1) (bytes := by_)
    hu hi hz hsz hby hzs hpos hb1 (by
      by_cases hc : ess.length = 0 ∧ ρ.rc r = 0
      · right
        rw [if_pos hc]
        refine ⟨by simp [xs, hc.1], hc.1, rfl, ρ.rb r, ?_⟩
        simp [C.den, r0, hc.1, hc.2]
      · rw [if_neg hc]
        rcases r3 with r3 | ⟨_, c2, c3⟩
        · exact .inl ⟨r3.2, rfl⟩
        · exact absurd ⟨by rw [c2]; rfl, c3⟩ hc) (by
      by_cases h0 : 0 < ess2.length
      · right
        obtain ⟨ad, had, hc⟩ := nest_heads hRq' h0
        refine ⟨ad, ρ.rc q, by simp [C.den, had, q0], fun j u hj => ?_⟩
        have hjl : j < ess2.length := by
          have := (List.getElem?_eq_some_iff.1 hj).1
          simpa [news] using this
        simp [news, hjl] at hj
        rw [← hj]
        exact hc j hjl
      · have e0 : ess2.length = 0 := by omega
        cases hb : ρ.rb q with
        | none =>
          left
          refine ⟨?_, e0, by simp [news, e0]⟩
          have hc : ρ.rc q = 0 := by
            rcases q3 with ⟨_, _, ⟨hv, _⟩ | ⟨g, cap, cur, hv, _⟩⟩ | ⟨_, _, c3⟩
            · simp only [C.den, Value.slice.injEq] at hv; exact hv.2.2
            · simp only [C.den, hb, Value.slice.injEq] at hv; cases hv.1
            · exact c3
          simp [C.den, hb, q0, e0, hc]
        | some ad => exact .inr ⟨ad, ρ.rc q, by simp [C.den, hb, q0], fun j u hj => by simp [news, e0] at hj⟩) (by simp [news]) (fun u hu => by
      simp only [news, List.mem_map] at hu
      obtain ⟨j, _, rfl⟩ := hu
      exact C.one_den (c := .ins q j) ρ rfl) hside
  have hrun : (execOp a.eval o).run P w = .ok (.value v') w' := by
    simp only [execOp, ho, resolve, invoke, builtin, Sem.run_bind, Sem.run_pure, Result.andThen_ok, List.map_toArray, List.map_cons, List.map_nil, es1, ey1, hrn]
  have hd' : dstOk N (some d) = true := hdst ▸ hd
  -- what was appended onto
  have hrow : ∀ b, (if ess.length = 0 ∧ ρ.rc r = 0 then none else (C.den ρ (.sl r)).ownBlock) = some b → R0 b := fun b hb => by
    by_cases hc : ess.length = 0 ∧ ρ.rc r = 0
    · rw [if_pos hc] at hb; cases hb
    · rw [if_neg hc] at hb
      rcases r3 with r3 | ⟨_, c2, c3⟩
      · exact (r3.1 b).2 hb
      · exact absurd ⟨by rw [c2]; rfl, c3⟩ hc
  obtain ⟨nb, nc, hv', Fn, hFn1, hFn2⟩ : ∃ nb nc, v' = .slice nb (ess.length + ess2.length) nc ∧ ∃ Fn : Nat → Prop, (∀ b, Fn b → R0 b ∨ b = w.heap.size ∧ b < w'.heap.size) ∧
      (((∀ b, Fn b ↔ v'.ownBlock = some b) ∧ w'.ownsRow 0 e 1 v' (ess.length + ess2.length) (xs ++ news)) ∨ ((∀ b, ¬ Fn b) ∧ ess ++ ess2 = [] ∧ nc = 0)) := by
    rcases hres with ⟨k1, k2⟩ | ⟨k1, k2, k3, b, rfl⟩
    · have hform : ∃ nb nc, v' = .slice nb (ess.length + ess2.length) nc := by
        rcases k1.2 with ⟨g, g0⟩ | ⟨g, cap, cur, hg, _⟩
        · exact ⟨none, 0, by rw [g, g0]⟩
        · exact ⟨_, cap, hg⟩
      obtain ⟨nb, nc, hf⟩ := hform
      refine ⟨nb, nc, hf, fun b => v'.ownBlock = some b, fun b hb => ?_, .inl ⟨fun b => Iff.rfl, k1⟩⟩
      rcases k2 with k2 | k2
      · left; rw [hb] at k2; exact hrow b k2.symm
      · right
        have : w.heap.size = b := by rw [k2] at hb; exact Option.some.inj hb
        exact ⟨this.symm, (k1.lt b hb).2⟩
    · refine ⟨b, 0, by rw [k1], fun _ => False, fun b h => h.elim, .inr ⟨fun b h => h, ?_, rfl⟩⟩
      have e1 : ess = [] := List.eq_nil_of_length_eq_zero (by omega)
      have e2 : ess2 = [] := List.eq_nil_of_length_eq_zero (by omega)
      simp [e1, e2]
  let ρ' := ρ.updV d nb (ess.length + ess2.length) nc (fun i => if i < ess.length then ρ.rv r i else ρ.rv q (i - ess.length))
  have hag : ∀ r, r ≠ d → ρ.agree ρ' r := fun r h => ρ.updV_agree h
  have hden : C.den ρ' (.sl d) = v' := by rw [hv']; simp [C.den, ρ', Nm.updV]
  have hrv : ∀ j, ρ'.rv d j = if j < ess.length then ρ.rv r j else ρ.rv q (j - ess.length) := fun j => by simp [ρ', Nm.updV]
  unfold Oper.wp
  rw [hrun, Oper.upon_value, hdst]
  have hblk : ∀ b, b < w.heap.size → ¬ R0 b → w'.heap[b]? = w.heap[b]? := fun b hb hn => hgrow.block b hb fun e => hn (hrow b e.symm)
  refine hk _ ρ' _ _ h ?_ ?_
  · have h1 : SatA N ρ' (envMap (C.mvIns q d ess.length) env) a := hA.mapC fun p hp c hc => by
      have hdn : d ∉ c.names := fun hd => hfr'.2.1 p hp (hc d hd)
      cases c with
      | ins p i =>
        simp only [C.mvIns]
        split
        · rename_i c1 c2
          have e1 := Nat.eq_of_beq_eq_true c1
          have e2 := Nat.eq_of_beq_eq_true c2
          subst e1 e2
          simp [C.den, hrv]
        · exact C.den_ne hag hdn
      | _ => exact C.den_ne hag hdn
    have := h1.put hd' (.v (.c (.sl d)))
    simpa only [E.den, V.den, hden, putE] using this
  · have hR1 : ∀ b, R1 b → b < w.heap.size := fun b hb => r4.lt hb
    have hQ1 : ∀ b, Q1 b → b < w.heap.size := fun b hb => q4.lt hb
    have hyF : ∀ b, Fy b → False := fun b hb => hyy b hb
    have hdis : ∀ b, R0 b → Q1 b → False := fun b k1 k2 => x2 b ((r1 b).2 (.inl k1)) ((y1 b).2 (.inl ((q1 b).2 (.inr k2))))
    have hdis2 : ∀ b, R1 b → Q1 b → False := fun b k1 k2 => x2 b ((r1 b).2 (.inr k1)) ((y1 b).2 (.inl ((q1 b).2 (.inr k2))))
    have hn1 : NestIn ρ' (ρ'.rv d) T2 sz [] 0 ess w' R1 :=
      NestIn.congr (ρ := ρ) (fun z hz => by simp at hz) (NestIn.shift (f := ρ.rv r) (i := 0) (j := 0) (fun j hj => by rw [Nat.zero_add, hrv, if_pos hj]) (r4.frame fun b hb => hblk b (hR1 b hb) fun k => r2 b k hb))
    have hn2 : NestIn ρ' (ρ'.rv d) T2 sz [] (0 + ess.length) ess2 w' Q1 :=
      NestIn.congr (ρ := ρ) (fun z hz => by simp at hz) (NestIn.shift (f := ρ.rv q) (i := 0) (fun j hj => by rw [Nat.zero_add, Nat.zero_add, hrv, if_neg (by omega), Nat.add_sub_cancel_left]) (q4.frame fun b hb => hblk b (hQ1 b hb) fun k => hdis b k hb))
    refine hW.convF hF0 g1 g2 hG2 hgrow.os hgrow.tape hgrow.output hgrow.size hag hfr'.1 hfr'.2.2 ⟨fun b => Fn b ∨ (R1 b ∨ Q1 b), ⟨by simp [ρ', Nm.updV], Fn, fun b => R1 b ∨ Q1 b, fun b => Iff.rfl, fun b k1 k2 => ?_, ?_, NestIn.app hn1 hn2 hdis2⟩, fun b hb => ?_, fun b hb hn => hblk b hb fun k => hn ((x1 b).2 (.inl ((r1 b).2 (.inl k))))⟩
    · rcases hFn1 b k1 with k1 | ⟨k1, _⟩
      · rcases k2 with k2 | k2
        · exact r2 b k1 k2
        · exact hdis b k1 k2
      · rcases k2 with k2 | k2
        · have := hR1 b k2; omega
        · have := hQ1 b k2; omega
    · rw [hden]
      rcases hFn2 with ⟨k1, k2⟩ | ⟨k1, k2, k3⟩
      · refine .inl ⟨k1, ?_⟩
        have e3 : ((List.range (ess ++ ess2).length).map fun i => hdr (ρ'.rv d i)) = xs ++ news := by
          apply List.ext_getElem
          · simp [xs, news]
          · intro j h1 h2
            simp only [List.getElem_map, List.getElem_range, hrv]
            by_cases hj : j < ess.length
            · rw [if_pos hj, List.getElem_append_left (by simpa [xs] using hj)]
              simp [xs]
            · rw [if_neg hj, List.getElem_append_right (by simp [xs]; omega)]
              simp [xs, news]
        rw [e3, List.length_append]
        exact k2
      · exact .inr ⟨k1, k2, by simp [ρ', Nm.updV, k3]⟩
    · rcases hb with hb | hb | hb
      · rcases hFn1 b hb with k | ⟨k, _⟩
        · exact .inl ((x1 b).2 (.inl ((r1 b).2 (.inl k))))
        · exact .inr (by omega)
      · exact .inl ((x1 b).2 (.inl ((r1 b).2 (.inr hb))))
      · exact .inl ((x1 b).2 (.inr ((y1 b).2 (.inl ((q1 b).2 (.inr hb))))))
end
end Go.Proofs.YtblihaicbhdbdaaDoor.X
