/- Rows of rows that lie elsewhere; append of zeros onto a nil slice; slices.Concat of two rows. No condition beyond each statement's. -/
import Derived.Test.YtblihaicbhdbdaaDoorNestO
import Derived.Test.YtblihaicbhdbdaaDoorMove
import Derived.Test.YtblihaicbhdbdaaDoorCut
import Derived.Lib.AppendZeros
namespace Go.Proofs.YtblihaicbhdbdaaDoor.X
open Go.RowKit
set_option linter.unusedVariables false
set_option linter.unusedSimpArgs false

section
variable {P : Program} {tt : Ty} {N : Nat} {D0 : List Nat} {o : Oper} {env : Env} {mem : Mem} {k : St → Prop}

/-- Two rows taken as the heads of a row of rows; they stay what they are. -/
theorem RestVC2.nestBuild2 (ht : TyOk P tt) {T d q1 q2 : Nat} {e : TypeId} {by_ : Nat} {zc : List C} {parts : Array (Nat × Operand)} {vs : List (Nat × V)} (T2 : TypeId) (sz : Nat) (ho : o.op = .buildSlice T 2 parts) (hdst : o.dst = some d) (hty : tyElemZ tt T = some (e, 1, by_, zc))
    (hvs : evParts env parts.toList = some vs) (hfill : fillC (fun i => some (i * 1, 1)) (zerosC zc 2) vs = some [.sl q1, .sl q2]) (hq1 : Nat.beq q1 d = false) (hq2 : Nat.beq q2 d = false) (hfr : freshN D0 env mem d = true)
    (h : k ⟨(d, .v (.c (.sl d))) :: env, (d, .ext (.nest e T2 sz [[], []] [(0, q1), (1, q2)])) :: mem⟩) : RestVC2 P N D0 o env mem k := by
  refine ⟨⟨?_⟩⟩
  intro X ρ a w next Q hX hd hA hW hk
  subst hX
  have hqd1 : q1 ≠ d := fun e => by rw [e] at hq1; simp at hq1
  have hqd2 : q2 ≠ d := fun e => by rw [e] at hq2; simp at hq2
  have hfr' := freshN_spec hfr
  obtain ⟨hu, i, z, hi, hz, hsz, hby, hzs, hpos, hb1, hzl, hzp, hzd⟩ := tyElemZ_ok ht hty
  have hf := fillC_den (ρ := ρ) hfill
  have hparts : (parts.map fun (x : Nat × Operand) => (x.1, a.eval x.2)).toList = vs.map fun x => (x.1, x.2.den ρ) := by
    rw [Array.toList_map]; exact evParts_den hA hvs
  have hrun : (execOp a.eval o).run P w = .ok (.value (.slice (some ⟨w.heap.size, 0, none⟩) 2 2)) (w.alloc (.cells #[C.den ρ (.sl q1), C.den ρ (.sl q2)] e)) := by
    have hzeros := zeros_den ρ zc (by omega) 2
    rw [hzd ρ, hzl] at hzeros
    have : (Instr.buildSlice T 2 (parts.map fun (i, x) => (i, a.eval x))).run P w = .ok (.slice (some ⟨w.heap.size, 0, none⟩) 2 2) (w.alloc (.cells #[C.den ρ (.sl q1), C.den ρ (.sl q2)] e)) := by
      generalize (parts.map fun (x : Nat × Operand) => (x.1, a.eval x.2)) = qq at hparts ⊢
      refine run_buildSlice w T e 2 _ _ i z hu hi hz (by rw [hsz]; decide) (by rw [hsz]; decide) ?_
      rw [hsz, hzeros, hparts]
      exact hf
    simp [execOp, ho, this]
  let ρ' := ρ.updV d (some ⟨w.heap.size, 0, none⟩) 2 2 (fun j => match j with | 0 => (ρ.rb q1, ρ.rn q1, ρ.rc q1) | _ => (ρ.rb q2, ρ.rn q2, ρ.rc q2))
  have hag : ∀ r, r ≠ d → ρ.agree ρ' r := fun r h => ρ.updV_agree h
  have hden : C.den ρ' (.sl d) = .slice (some ⟨w.heap.size, 0, none⟩) 2 2 := by simp [C.den, ρ', Nm.updV]
  have hrv0 : ρ'.rv d 0 = (ρ.rb q1, ρ.rn q1, ρ.rc q1) := by simp [ρ', Nm.updV]
  have hrv1 : ρ'.rv d 1 = (ρ.rb q2, ρ.rn q2, ρ.rc q2) := by simp [ρ', Nm.updV]
  have hd' : dstOk N (some d) = true := hdst ▸ hd
  unfold Oper.wp
  rw [hrun, Oper.upon_value, hdst]
  refine hk _ ρ' _ _ h ?_ ?_
  · have := (hA.congr (ρ' := ρ') fun p hp r hr => hag r fun e => hfr'.2.1 p hp (e ▸ hr)).put hd' (.v (.c (.sl d)))
    simpa only [E.den, V.den, hden, putE] using this
  · refine hW.alloc (o := .cells #[C.den ρ (.sl q1), C.den ρ (.sl q2)] e) hag hfr'.1 hfr'.2.2 ?_
    have a1 := hag q1 hqd1
    have a2 := hag q2 hqd2
    refine ⟨by simp [ρ', Nm.updV], (· = w.heap.size), fun _ => False, fun b => by simp, fun b _ h => h, .inl ⟨fun b => ?_, by simp, .inr ⟨w.heap.size, 2, #[C.den ρ (.sl q1), C.den ρ (.sl q2)], hden, Nat.zero_le _, heap_alloc_new w _, by simp, by simp [maxLen], by simp, ?_⟩⟩, ?_⟩
    · rw [hden]; simp [Value.ownBlock, eq_comm]
    · simp [List.range_succ, hrv0, hrv1, hdr, C.den]
    · refine ⟨fun _ => False, fun _ => False, fun b => by simp, fun b h _ => h, ?_, fun _ => False, fun _ => False, fun b => by simp, fun b h _ => h, ?_, fun b h => h⟩
      · simp only [holeAt, if_true, InnerAt]
        exact ⟨fun b h => h, by rw [hrv0, a1.2.1, a1.2.2.1, a1.2.2.2.1]⟩
      · simp only [holeAt, InnerAt]
        exact ⟨fun b h => h, by rw [show ρ'.rv d (0 + 1) = _ from hrv1, a2.2.1, a2.2.2.1, a2.2.2.2.1]⟩

/-- The place of a head, whatever has been taken out. -/
theorem RestVC2.nestAddrH (ht : TyOk P tt) {x y : Operand} {T r : Nat} {T1 T2 e : TypeId} {sz : Nat} {ess : List (List (List C))} {hs : List (Nat × Nat)} {kd : IntKind} {n : Int} (ho : o.op = .indexAddr T x y) (hx : ev env x = some (.v (.c (.sl r)))) (hy : ev env y = some (.v (.c (.int kd n))))
    (hl : look mem r = some (.ext (.nest T1 T2 sz ess hs))) (hty : tyElem tt T = some (e, 1)) (hn : 0 ≤ n ∧ n < ess.length) (h : k ⟨putE env o.dst (.v (.c (.el r n.toNat 1 0))), mem⟩) : RestVC2 P N D0 o env mem k := by
  refine ⟨⟨?_⟩⟩
  intro X ρ a w next Q hX hd hA hW hk
  obtain ⟨F, hF, hF0⟩ := hW.mem
  obtain ⟨F1, hR1, _⟩ := hF.get hl
  obtain ⟨ad, had, _⟩ := nest_heads hR1 (by omega)
  have hrn : ρ.rn r = ess.length := hR1.1
  obtain ⟨hu, inf, hi1, hi2⟩ := tyElem_ok ht hty
  refine value_wp (st := ⟨env, mem⟩) (e := .v (.c (.el r n.toNat 1 0))) (kk := k) hd hA hW ?_ h hk
  simp only [execOp, ho, ev_den hA hx, ev_den hA hy, E.den, V.den, C.den, had, hrn]
  simp [Instr.indexAt, asIntOf, run_underlying hu, hn, sizeOf, typeInfo, hi1, hi2]

theorem NestIn.hole {ρ : Nm} {f : Nat → Option Addr × Nat × Nat} {T : TypeId} {sz : Nat} {hs : List (Nat × Nat)} {w : World} {z : Nat} : ∀ {ess : List (List (List C))} {j i : Nat} {F : Nat → Prop}, NestIn ρ f T sz hs j ess w F → i < ess.length → holeAt hs (j + i) = some z → f (j + i) = (ρ.rb z, ρ.rn z, ρ.rc z)
  | [], j, i, F, _, hi, _ => absurd hi (Nat.not_lt_zero _)
  | es :: rest, j, 0, F, h, _, hz => by
    obtain ⟨F1, F2, _, _, h3, _⟩ := h
    rw [Nat.add_zero] at hz ⊢
    rw [hz] at h3
    exact h3.2
  | es :: rest, j, i + 1, F, h, hi, hz => by
    obtain ⟨F1, F2, _, _, _, h4⟩ := h
    have := NestIn.hole h4 (i := i) (by simpa using hi) (by rw [show j + 1 + i = j + (i + 1) by omega]; exact hz)
    rw [show j + (i + 1) = j + 1 + i by omega]; exact this

/-- A head that has been taken out, read. -/
theorem RestVC2.nestLoadH (ht : TyOk P tt) {x : Operand} {T r i z : Nat} {T1 T2 : TypeId} {sz : Nat} {ess : List (List (List C))} {hs : List (Nat × Nat)} {v : V} (ho : o.op = .load T x) (hx : ev env x = some (.v (.c (.el r i 1 0))))
    (hl : look mem r = some (.ext (.nest T1 T2 sz ess hs))) (hz : holeAt hs i = some z) (hv : loadC tt T [.sl z] 0 = some v) (hi : i < ess.length) (h : k ⟨putE env o.dst (.v v), mem⟩) : RestVC2 P N D0 o env mem k := by
  refine ⟨⟨?_⟩⟩
  intro X ρ a w next Q hX hd hA hW hk
  obtain ⟨F, hF, hF0⟩ := hW.mem
  obtain ⟨F1, hR1, _⟩ := hF.get hl
  obtain ⟨ad, had, hc⟩ := nest_heads hR1 (by omega)
  have hf : ρ.rv r i = (ρ.rb z, ρ.rn z, ρ.rc z) := by
    obtain ⟨_, F0, F1', _, _, _, h4⟩ := hR1
    have := NestIn.hole h4 hi (by rw [Nat.zero_add]; exact hz)
    rwa [Nat.zero_add] at this
  refine value_wp (st := ⟨env, mem⟩) (e := .v v) (kk := k) hd hA hW ?_ h hk
  have ex : a.eval x = .pointer (some (ad.add (i * 1 + 0))) := by rw [ev_den hA hx]; simp [E.den, V.den, C.den, had]
  have hrun := loadC_run ht (ρ := ρ) (ad := ad.add i) (w := w) (cs := [.sl z]) (fun j c hj => by
    cases j with
    | zero =>
      simp only [List.getElem?_cons_zero, Option.some.injEq] at hj
      subst hj
      rw [Addr.add_add', Nat.add_zero, hc i hi, hf]; rfl
    | succ j => simp at hj) hv
  rw [Addr.add_add', Nat.add_zero] at hrun
  simp [execOp, ho, ex, Instr.loadAt, Instr.sureAddr, hrun, E.den]

/-- cap of a nil slice. -/
theorem RestVC2.nilCap (ht : TyOk P tt) {x : Operand} {T : TypeId} (ho : o.op = .call ⟨.builtin .cap, #[x], #[T]⟩) (hx : ev env x = some (.v (.c (.val (.slice none 0 0))))) (hty : tySlice tt T = true)
    (h : k ⟨putE env o.dst (.v (.c (.int .i64 0))), mem⟩) : RestVC2 P N D0 o env mem k := by
  refine ⟨⟨?_⟩⟩
  intro X ρ a w next Q hX hd hA hW hk
  obtain ⟨e, hu⟩ := tySlice_ok ht hty
  refine value_wp (st := ⟨env, mem⟩) (e := .v (.c (.int .i64 0))) (kk := k) hd hA hW ?_ h hk
  have ex : a.eval x = .slice none 0 0 := ev_den hA hx
  simp only [execOp, ho, resolve, invoke, builtin, Sem.run_bind, Sem.run_pure, Result.andThen_ok, List.map_toArray, List.map_cons, List.map_nil, ex, E.den, V.den, C.den]
  simp [Builtin.cap_, run_underlying hu, goInt]
/-- len of a nil slice. -/
theorem RestVC2.nilLen (ht : TyOk P tt) {x : Operand} {T : TypeId} (ho : o.op = .call ⟨.builtin .len, #[x], #[T]⟩) (hx : ev env x = some (.v (.c (.val (.slice none 0 0))))) (hty : tySlice tt T = true)
    (h : k ⟨putE env o.dst (.v (.c (.int .i64 0))), mem⟩) : RestVC2 P N D0 o env mem k := by
  refine ⟨⟨?_⟩⟩
  intro X ρ a w next Q hX hd hA hW hk
  obtain ⟨e, hu⟩ := tySlice_ok ht hty
  refine value_wp (st := ⟨env, mem⟩) (e := .v (.c (.int .i64 0))) (kk := k) hd hA hW ?_ h hk
  have ex : a.eval x = .slice none 0 0 := ev_den hA hx
  simp only [execOp, ho, resolve, invoke, builtin, Sem.run_bind, Sem.run_pure, Result.andThen_ok, List.map_toArray, List.map_cons, List.map_nil, ex, E.den, V.den, C.den]
  simp [Builtin.len_, run_underlying hu, goInt]
/-- A nil slice cut to nothing. -/
theorem RestVC2.nilCut (ht : TyOk P tt) {x h' : Operand} {T e : TypeId} {sz : Nat} {k1 : IntKind} (ho : o.op = .slice T x none (some h') none) (hx : ev env x = some (.v (.c (.val (.slice none 0 0))))) (hh : ev env h' = some (.v (.c (.int k1 0)))) (hty : tyElem tt T = some (e, sz))
    (h : k ⟨putE env o.dst (.v (.c (.val (.slice none 0 0)))), mem⟩) : RestVC2 P N D0 o env mem k := by
  refine ⟨⟨?_⟩⟩
  intro X ρ a w next Q hX hd hA hW hk
  obtain ⟨hu, inf, hi1, hi2⟩ := tyElem_ok ht hty
  refine value_wp (st := ⟨env, mem⟩) (e := .v (.c (.val (.slice none 0 0)))) (kk := k) hd hA hW ?_ h hk
  have e1 : a.eval x = .slice none 0 0 := ev_den hA hx
  have e2 : a.eval h' = .int k1 0 := ev_den hA hh
  have hb : ∀ w, (Instr.sliceBounds true 0 0 none (some (.int k1 0)) none).run P w = .ok (0, 0, 0) w := fun w => by
    simp [Instr.sliceBounds, Instr.sliceBound, asIntOf]
  simp only [execOp, ho, e1, e2, Option.map_some, Option.map_none, C.den, E.den, V.den]
  simp [Instr.sliceAt, Instr.slice, run_underlying hu, hb, sizeOf, typeInfo, hi1, hi2]

/-- append of n zeros onto a nil slice. -/
theorem RestVC2.appendZ (ht : TyOk P tt) {T T' d : Nat} {s y : Operand} {e : TypeId} {by_ sz : Nat} {zc : List C} {kd : IntKind} {n : Int} (ho : o.op = .call ⟨.builtin .append, #[s, y], #[T, T']⟩) (hdst : o.dst = some d) (hty : tyElemZ tt T = some (e, sz, by_, zc)) (hty2 : ∃ kn, P.underlying T' = some (.int kn))
    (hs : ev env s = some (.v (.c (.val (.slice none 0 0))))) (hy : ev env y = some (.v (.c (.int kd n)))) (hn : 0 < n ∧ n * by_ ≤ 140737488355328) (hfr : freshN D0 env mem d = true)
    (h : k ⟨(d, .v (.c (.sl d))) :: env, (d, .sl e sz (List.replicate n.toNat zc)) :: mem⟩) : RestVC2 P N D0 o env mem k := by
  refine ⟨⟨?_⟩⟩
  intro X ρ a w next Q hX hd hA hW hk
  subst hX
  have hfr' := freshN_spec hfr
  obtain ⟨hu, i, z, hi, hz, hsz, hby, hzs, hpos, hb1, hzl, hzp, hzd⟩ := tyElemZ_ok ht hty
  obtain ⟨kn, hu2⟩ := hty2
  obtain ⟨m, rfl⟩ := Int.eq_ofNat_of_zero_le (show 0 ≤ n by omega)
  have hm : 0 < m := by omega
  have hmb : m * by_ ≤ 140737488355328 := by have := hn.2; omega
  have hm1 : m ≤ m * by_ := Nat.le_mul_of_pos_right _ hb1
  have hrun0 := Go.Lib.run_append_nil_zeros (P := P) w T T' o.type e i z kd kn hu hu2 hi hz m hm (by omega) (by omega) (by rw [hby]; omega)
  have es : a.eval s = .slice none 0 0 := ev_den hA hs
  have ey : a.eval y = .int kd m := ev_den hA hy
  have hge := grownCap_ge w m 0 e
  have hle := grownCap_le_maxLen w m 0 e (by unfold maxLen; omega)
  generalize grownCap w m 0 e = cap at *
  have hrun : (execOp a.eval o).run P w = .ok (.value (.slice (some ⟨w.heap.size, 0, none⟩) m cap)) (w.drew.alloc (.cells (Builtin.zeroCells z.cells m ++ Builtin.zeroCells z.cells (cap - m)) e)) := by
    simp only [execOp, ho, resolve, invoke, builtin, Sem.run_bind, Sem.run_pure, Result.andThen_ok, List.map_toArray, List.map_cons, List.map_nil, es, ey, hrun0]
  have hzc : ∀ q, (Builtin.zeroCells z.cells q).toList = (zerosC zc q).map (C.den ρ) := fun q => by
    have := zeros_den ρ zc (by omega) q
    rw [hzd ρ, hzl] at this
    unfold Builtin.zeroCells
    rw [hzs] at this ⊢
    rw [this]
  have hzsz : ∀ q, (Builtin.zeroCells z.cells q).size = q * sz := fun q => by
    rw [← Array.length_toList, hzc, List.length_map, length_zerosC, hzl]
  have hd' : dstOk N (some d) = true := hdst ▸ hd
  unfold Oper.wp
  rw [hrun, Oper.upon_value, hdst]
  let ρ' := ρ.upd d (ρ.adr d) (some ⟨w.heap.size, 0, none⟩) m cap
  have hag : ∀ r, r ≠ d → ρ.agree ρ' r := fun r h => ρ.upd_agree h
  have hden : C.den ρ' (.sl d) = .slice (some ⟨w.heap.size, 0, none⟩) m cap := by simp [C.den, ρ', Nm.upd]
  have hpl : plainEs sz (List.replicate m zc) := fun x hx => by rw [List.eq_of_mem_replicate hx]; exact ⟨hzl, cellsPlain_ok hzp⟩
  have hWd : SatW X ρ mem w.drew := hW.drewW
  refine hk _ ρ' _ _ h ?_ (hWd.alloc hag hfr'.1 hfr'.2.2 ⟨hpl, by simp [ρ', Nm.upd], .inl ⟨fun b => ?_, flat_len' ρ' hpl, .inr ⟨w.heap.size, cap, Builtin.zeroCells z.cells m ++ Builtin.zeroCells z.cells (cap - m), by rw [List.length_replicate]; simpa using hden, Nat.zero_le _, heap_alloc_new w.drew _, by simpa using hge, hle, ?_, ?_⟩⟩⟩)
  · have := (hA.congr (ρ' := ρ') fun p hp r hr => hag r fun e => hfr'.2.1 p hp (e ▸ hr)).put hd' (.v (.c (.sl d)))
    simpa only [E.den, V.den, hden, putE] using this
  · rw [hden]; simp [Value.ownBlock, eq_comm]
  · rw [Array.size_append, hzsz, hzsz, ← Nat.add_mul]; congr 1; omega
  · simp only [Int.toNat_natCast]
    rw [Array.toList_append, hzc, hzc, List.length_replicate, flat_zeros]
    have e1 : ((zerosC zc m).map (C.den ρ)).length = m * sz := by rw [List.length_map, length_zerosC, hzl]
    rw [List.take_left' e1]
    refine List.map_congr_left fun c hc => c.den_congr fun q hq => ?_
    rw [(cellsPlain_ok hzp c (mem_zerosC hc)).1] at hq
    cases hq
end

open Go.Proofs
set_option maxRecDepth 100000
theorem grow_spec (n : Nat) (hn : n ≤ 1000000) : Spec Tryd.prog 56 [.c (.val (.slice none 0 0)), i64 n] [] (isRes [.c (.sl 1001)] [(1001, .sl 45 2 [])]) := by
  have hty2 : ∃ kn, Tryd.prog.underlying 3 = some (.int kn) := ⟨_, Tryd.underlying3⟩
  refine Spec.of_wpx tt_ok Tryd.func56 (by kernel_rfl) rfl ?_
  (repeat' ((conv => whnf); first | refine CondVC.t ?_ | refine CondVC.f ?_ | refine CondVC.dec (fun h => ?_) (fun h => ?_) | refine CondVC.ndec (fun h => ?_) (fun h => ?_) | refine CondVC.mk (fun h => ?_) (fun h => ?_) | refine ArVC.i64 (by first | omega | (simp only; omega)) ?_ | refine SideVC.mk (by first | omega | decide | (simp only; omega) | (simp [slS]; done) | (simp [slS]; omega) | (simp only [byteE_len, mvE_len, strE_len, intE_len, esC_len, List.length_cons, List.length_nil, List.length_append, List.length_replicate, List.length_set, Int.toNat_natCast, and_true] at *; omega)) ?_ | refine LoopN.go ?_ | exact trivial | refine AltVC.mk ?_ ?_ | refine HeldVC.mk rfl ?_ | refine RestVC2.nilCap tt_ok rfl rfl rfl ?_ | refine RestVC2.nilLen tt_ok rfl rfl rfl ?_ | refine RestVC2.nilCut tt_ok rfl rfl rfl rfl ?_ | refine RestVC2.appendZ tt_ok rfl rfl rfl hty2 rfl rfl (by omega) rfl ?_ | refine OpVC.more tt_ok ?_ | refine RestVC.ext tt_ok ?_)); all_goals (conv => whnf)
  all_goals first
    | (exfalso; omega)
    | exact RetVC.nil 1001 45 2 [.c (.sl 1001)] [] rfl rfl rfl (RetVC.res rfl rfl)
    | exact RetVC.cut 1001 22 2 0 [.c (.sl 1001)] rfl rfl (Nat.zero_le _) rfl (RetVC.mk rfl ⟨rfl, rfl⟩)
def catTo (l1 l2 : List Mv) (k : Nat) : List Mv := if k = 0 then [] else if k = 1 then l1 else l1 ++ l2
theorem concat_spec (l1 l2 : List Mv) (h1 : l1.length ≤ 100000) (h2 : l2.length ≤ 100000) : Spec Tryd.prog 36 [.c (.sl 1000)]
    [(1000, .ext (.nest 27 45 2 [[], []] [(0, 1001), (1, 1002)])), (1001, .sl 45 2 (mvE l1)), (1002, .sl 45 2 (mvE l2))]
    (isRes [.c (.sl 1003)] [(1003, .sl 45 2 (mvE (l1 ++ l2)))]) := by
  have hm1 := mvE_len l1
  have hm2 := mvE_len l2
  have hg := Spec.ren [(1001, 3001)] [(3001, 1001)] (grow_spec (l1.length + l2.length) (by omega)) rfl rfl rfl
  refine Spec.of_wpx tt_ok Tryd.func36 (by kernel_rfl) rfl ?_
  (repeat' ((conv => whnf); first | refine CondVC.t ?_ | refine CondVC.f ?_ | refine CondVC.dec (fun h => ?_) (fun h => ?_) | refine CondVC.ndec (fun h => ?_) (fun h => ?_) | refine CondVC.mk (fun h => ?_) (fun h => ?_) | refine ArVC.i64 (by first | omega | (simp only; omega)) ?_ | refine SideVC.mk (by first | omega | decide | (simp only; omega) | (simp [slS]; done) | (simp [slS]; omega) | (simp only [byteE_len, mvE_len, strE_len, intE_len, esC_len, List.length_cons, List.length_nil, List.length_append, List.length_replicate, List.length_set, Int.toNat_natCast, and_true] at *; omega)) ?_ | refine LoopN.go ?_ | exact trivial | refine AltVC.mk ?_ ?_ | refine HeldVC.mk rfl ?_ | refine OpVC.more tt_ok ?_ | refine RestVC.ext tt_ok ?_)); all_goals (conv => whnf)
  refine LoopVC.mk (G := Nat) (fun k => ⟨[(11, .v (i64 k)), (10, .v (i64 2)), (9, .v (.c (.sl 1000))), (0, .v (.c (.sl 1000))), (3, .v (i64 (catTo l1 l2 k).length))],
      [(1000, .ext (.nest 27 45 2 [[], []] [(0, 1001), (1, 1002)])), (1001, .sl 45 2 (mvE l1)), (1002, .sl 45 2 (mvE l2))]⟩)
    (fun k => k ≤ 2) (fun k => 2 - k) 0 (Nat.zero_le _) (Sub.mk [] _ ⟨rfl, rfl, rfl, rfl, rfl, trivial⟩ rfl rfl) ?_
  intro k hk
  have q0 : (catTo l1 l2 0).length = 0 := rfl
  have q1 : (catTo l1 l2 1).length = l1.length := rfl
  match k, hk with
  | 0, _ =>
    (repeat' ((conv => whnf); first | refine CondVC.t ?_ | refine CondVC.f ?_ | refine CondVC.dec (fun h => ?_) (fun h => ?_) | refine CondVC.ndec (fun h => ?_) (fun h => ?_) | refine CondVC.mk (fun h => ?_) (fun h => ?_) | refine ArVC.i64 (by first | omega | (simp only; omega)) ?_ | refine SideVC.mk (by first | omega | decide | (simp only; omega) | (simp [slS]; done) | (simp [slS]; omega) | (simp only [byteE_len, mvE_len, strE_len, intE_len, esC_len, List.length_cons, List.length_nil, List.length_append, List.length_replicate, List.length_set, Int.toNat_natCast, and_true] at *; omega)) ?_ | refine LoopN.go ?_ | exact trivial | refine AltVC.mk ?_ ?_ | refine HeldVC.mk rfl ?_ | refine RestVC2.nestAddrH tt_ok rfl rfl rfl rfl rfl (by decide) ?_ | refine RestVC2.nestLoadH tt_ok rfl rfl rfl rfl rfl (by decide) ?_ | refine OpVC.more tt_ok ?_ | refine RestVC.ext tt_ok ?_)); all_goals (conv => whnf)
    all_goals first
      | (exfalso; omega)
      | exact ⟨1, by decide, by decide, Sub.mk [] _ ⟨rfl, rfl, rfl, rfl, congrArg (fun z => some (E.v (i64 z))) (show (((catTo l1 l2 0).length : Nat) : Int) + ((mvE l1).length : Int) = ((catTo l1 l2 1).length : Int) by simp [catTo, hm1]), trivial⟩ rfl rfl⟩
      | (exfalso; simp [catTo] at *; omega)
  | 1, _ =>
    (repeat' ((conv => whnf); first | refine CondVC.t ?_ | refine CondVC.f ?_ | refine CondVC.dec (fun h => ?_) (fun h => ?_) | refine CondVC.ndec (fun h => ?_) (fun h => ?_) | refine CondVC.mk (fun h => ?_) (fun h => ?_) | refine ArVC.i64 (by first | omega | (simp only; omega)) ?_ | refine SideVC.mk (by first | omega | decide | (simp only; omega) | (simp [slS]; done) | (simp [slS]; omega) | (simp only [byteE_len, mvE_len, strE_len, intE_len, esC_len, List.length_cons, List.length_nil, List.length_append, List.length_replicate, List.length_set, Int.toNat_natCast, and_true] at *; omega)) ?_ | refine LoopN.go ?_ | exact trivial | refine AltVC.mk ?_ ?_ | refine HeldVC.mk rfl ?_ | refine RestVC2.nestAddrH tt_ok rfl rfl rfl rfl rfl (by decide) ?_ | refine RestVC2.nestLoadH tt_ok rfl rfl rfl rfl rfl (by decide) ?_ | refine OpVC.more tt_ok ?_ | refine RestVC.ext tt_ok ?_)); all_goals (conv => whnf)
    all_goals first
      | (exfalso; omega)
      | exact ⟨2, by decide, by decide, Sub.mk [] _ ⟨rfl, rfl, rfl, rfl, congrArg (fun z => some (E.v (i64 z))) (show (((catTo l1 l2 1).length : Nat) : Int) + ((mvE l2).length : Int) = ((catTo l1 l2 2).length : Int) by simp [catTo, hm2]), trivial⟩ rfl rfl⟩
      | (exfalso; simp [catTo] at *; omega)
  | 2, _ =>
    have e2 : ((catTo l1 l2 2).length : Int) = ((l1.length + l2.length : Nat) : Int) := by simp [catTo]
    rw [e2]
    (repeat' ((conv => whnf); first | refine CondVC.t ?_ | refine CondVC.f ?_ | refine CondVC.dec (fun h => ?_) (fun h => ?_) | refine CondVC.ndec (fun h => ?_) (fun h => ?_) | refine CondVC.mk (fun h => ?_) (fun h => ?_) | refine ArVC.i64 (by first | omega | (simp only; omega)) ?_ | refine SideVC.mk (by first | omega | decide | (simp only; omega) | (simp [slS]; done) | (simp [slS]; omega) | (simp only [byteE_len, mvE_len, strE_len, intE_len, esC_len, List.length_cons, List.length_nil, List.length_append, List.length_replicate, List.length_set, Int.toNat_natCast, and_true] at *; omega)) ?_ | refine LoopN.go ?_ | exact trivial | refine AltVC.mk ?_ ?_ | refine HeldVC.mk rfl ?_ | refine CallVC.res [] rfl hg rfl ?_ | refine OpVC.more tt_ok ?_ | refine RestVC.ext tt_ok ?_)); all_goals (conv => whnf)
    all_goals try (exfalso; omega)
    refine LoopVC.mk (G := Nat) (fun k => ⟨[(27, .v (i64 k)), (26, .v (i64 2)), (25, .v (.c (.sl 1000))), (6, .v (.c (.sl 3001)))],
        [(1000, .ext (.nest 27 45 2 [[], []] [(0, 1001), (1, 1002)])), (1001, .sl 45 2 (mvE l1)), (1002, .sl 45 2 (mvE l2)), (3001, .sl 45 2 (mvE (catTo l1 l2 k)))]⟩)
      (fun k => k ≤ 2) (fun k => 2 - k) 0 (Nat.zero_le _) (Sub.mk [] _ ⟨rfl, rfl, rfl, rfl, trivial⟩ rfl rfl) ?_
    intro k hk
    match k, hk with
    | 0, _ =>
      have ha : mvE (catTo l1 l2 1) = [] ++ mvE l1 := rfl
      have ha0 : mvE (catTo l1 l2 0) = [] := rfl
      rw [ha0]
      (repeat' ((conv => whnf); first | refine CondVC.t ?_ | refine CondVC.f ?_ | refine CondVC.dec (fun h => ?_) (fun h => ?_) | refine CondVC.ndec (fun h => ?_) (fun h => ?_) | refine CondVC.mk (fun h => ?_) (fun h => ?_) | refine ArVC.i64 (by first | omega | (simp only; omega)) ?_ | refine SideVC.mk (by first | omega | decide | (simp only; omega) | (simp [slS]; done) | (simp [slS]; omega) | (simp only [byteE_len, mvE_len, strE_len, intE_len, esC_len, List.length_cons, List.length_nil, List.length_append, List.length_replicate, List.length_set, Int.toNat_natCast, and_true] at *; omega)) ?_ | refine LoopN.go ?_ | exact trivial | refine AltVC.mk ?_ ?_ | refine HeldVC.mk rfl ?_ | refine RestVC2.nestAddrH tt_ok rfl rfl rfl rfl rfl (by decide) ?_ | refine RestVC2.nestLoadH tt_ok rfl rfl rfl rfl rfl (by decide) ?_ | refine SideVC.mk (by rw [hm1]; simp only [List.length_nil]; omega) ?_ | refine OpVC.more tt_ok ?_ | refine RestVC.ext tt_ok ?_)); all_goals (conv => whnf)
      all_goals first
        | (exfalso; omega)
        | exact ⟨1, by decide, by decide, Sub.mk [(3001, 33)] _ ⟨rfl, rfl, rfl, rfl, trivial⟩ (by simp only [ha]; rfl) rfl⟩
    | 1, _ =>
      have ha : mvE (catTo l1 l2 2) = mvE l1 ++ mvE l2 := by simp [catTo, mvE]
      have ha1 : mvE (catTo l1 l2 1) = mvE l1 := rfl
      rw [ha1]
      (repeat' ((conv => whnf); first | refine CondVC.t ?_ | refine CondVC.f ?_ | refine CondVC.dec (fun h => ?_) (fun h => ?_) | refine CondVC.ndec (fun h => ?_) (fun h => ?_) | refine CondVC.mk (fun h => ?_) (fun h => ?_) | refine ArVC.i64 (by first | omega | (simp only; omega)) ?_ | refine SideVC.mk (by first | omega | decide | (simp only; omega) | (simp [slS]; done) | (simp [slS]; omega) | (simp only [byteE_len, mvE_len, strE_len, intE_len, esC_len, List.length_cons, List.length_nil, List.length_append, List.length_replicate, List.length_set, Int.toNat_natCast, and_true] at *; omega)) ?_ | refine LoopN.go ?_ | exact trivial | refine AltVC.mk ?_ ?_ | refine HeldVC.mk rfl ?_ | refine RestVC2.nestAddrH tt_ok rfl rfl rfl rfl rfl (by decide) ?_ | refine RestVC2.nestLoadH tt_ok rfl rfl rfl rfl rfl (by decide) ?_ | refine SideVC.mk (by rw [hm1, hm2]; omega) ?_ | refine OpVC.more tt_ok ?_ | refine RestVC.ext tt_ok ?_)); all_goals (conv => whnf)
      all_goals first
        | (exfalso; omega)
        | exact ⟨2, by decide, by decide, Sub.mk [(3001, 33)] _ ⟨rfl, rfl, rfl, rfl, trivial⟩ (by simp only [ha]; rfl) rfl⟩
    | 2, _ =>
      have ha : mvE (catTo l1 l2 2) = mvE (l1 ++ l2) := rfl
      rw [ha]
      (repeat' ((conv => whnf); first | refine CondVC.t ?_ | refine CondVC.f ?_ | refine CondVC.dec (fun h => ?_) (fun h => ?_) | refine CondVC.ndec (fun h => ?_) (fun h => ?_) | refine CondVC.mk (fun h => ?_) (fun h => ?_) | refine ArVC.i64 (by first | omega | (simp only; omega)) ?_ | refine SideVC.mk (by first | omega | decide | (simp only; omega) | (simp [slS]; done) | (simp [slS]; omega) | (simp only [byteE_len, mvE_len, strE_len, intE_len, esC_len, List.length_cons, List.length_nil, List.length_append, List.length_replicate, List.length_set, Int.toNat_natCast, and_true] at *; omega)) ?_ | refine LoopN.go ?_ | exact trivial | refine AltVC.mk ?_ ?_ | refine HeldVC.mk rfl ?_ | refine OpVC.more tt_ok ?_ | refine RestVC.ext tt_ok ?_)); all_goals (conv => whnf)
      all_goals first
        | (exfalso; omega)
        | exact RetVC.ren [(1003, 3001)] [.c (.sl 1003)] [(1003, .sl 45 2 (mvE (l1 ++ l2)))] rfl rfl rfl ⟨rfl, rfl⟩
end Go.Proofs.YtblihaicbhdbdaaDoor.X
