/- Queues: a slice whose first elements have been cut off, and which grows behind. No condition. -/
import Derived.Test.YtblihaicbhdbdaaDoorNest
namespace Go.Proofs.YtblihaicbhdbdaaDoor.X
open Go.RowKit
set_option linter.unusedVariables false
set_option linter.unusedSimpArgs false

theorem addZ' (g j : Nat) : (⟨g, 0, none⟩ : Addr).add j = ⟨g, j, none⟩ := (add_none g 0 j).trans (by simp)

/-- append in place, the slice's start lying anywhere. -/
theorem append_room_off {P : Program} (w : World) (t ty e : TypeId) (i : TypeInfo) (ht : P.underlying t = some (.slice e)) (hi : P.info? e = some i)
    (g off sLen sCap : Nat) (cur : Array Value) (hg : w.heap[g]? = some (.cells cur e (0, 0)))
    (a : Addr) (m c : Nat) (news : List Value) (hl : news.length = m * i.size) (hnews : ∀ j u, news[j]? = some u → w.cell? (a.add j) = some u) (h1 : ∀ u ∈ news, u.oneCell' = true)
    (hroom : sLen + m ≤ sCap) (hfit : off + sLen * i.size + news.length ≤ cur.size) :
    (Builtin.append_ #[t, t] ty #[.slice (some ⟨g, off, none⟩) sLen sCap, .slice (some a) m c]).run P w =
      .ok (.slice (some ⟨g, off, none⟩) (sLen + m) sCap) (w.setRow g (cur.toList.take (off + sLen * i.size) ++ news ++ cur.toList.drop (off + sLen * i.size + news.length)).toArray) := by
  have hf := run_firstCells_some (P := P) w i.size m a m c news hl hnews
  have hst := run_storeCells_at P g (off + sLen * i.size) e news 0 cur w hg (by simpa using hfit) h1
  simp only [Nat.add_zero] at hst
  simp [Builtin.append_, run_underlying ht, sizeOf, typeInfo, hi, Builtin.lenOf, hroom, hf, Addr.add_lit, hst]

theorem flat_length (ρ : Nm) {sz : Nat} : ∀ {es : List (List C)}, plainEs sz es → (flat ρ es).length = es.length * sz := fun h => flat_len' ρ h
theorem flat_dropL (ρ : Nm) {sz lo : Nat} {es : List (List C)} (h : plainEs sz es) (hlo : lo ≤ es.length) : flat ρ (es.drop lo) = (flat ρ es).drop (lo * sz) := by
  have h1 : flat ρ es = flat ρ (es.take lo) ++ flat ρ (es.drop lo) := by rw [← flat_app, List.take_append_drop]
  have h2 : (flat ρ (es.take lo)).length = lo * sz := by
    rw [flat_length ρ (plain_take h lo), List.length_take, Nat.min_eq_left hlo]
  rw [h1, ← h2, List.drop_left]

/-- The new row behind an append onto the rest of a row. -/
structure Grown (w w' : World) (F1 : Nat → Prop) (e : TypeId) (sz : Nat) (ρ : Nm) (es es2 : List (List C)) (lo : Nat) (v' : Value) : Prop where
  out : ∃ (g cap lo' : Nat) (es' : List (List C)) (cur : Array Value), lo' ≤ es'.length ∧ es'.drop lo' = es.drop lo ++ es2 ∧ es'.length ≤ es.length + es2.length ∧ plainEs sz es' ∧ v' = .slice (if cap = lo' then some ⟨g, 0, none⟩ else some ⟨g, lo' * sz, none⟩) (es'.length - lo') (cap - lo') ∧
    (F1 g ∨ g = w.heap.size) ∧ w'.heap[g]? = some (.cells cur e (0, 0)) ∧ es'.length ≤ cap ∧ cap ≤ maxLen ∧ cur.size = cap * sz ∧ cur.toList.take (es'.length * sz) = flat ρ es'
  os : w'.os = w.os
  tape : w'.tape = w.tape
  output : w'.output = w.output
  size : w.heap.size ≤ w'.heap.size
  keep : ∀ b, b < w.heap.size → ¬ F1 b → w'.heap[b]? = w.heap[b]?

section
variable {P : Program} {tt : Ty} {N : Nat} {D0 : List Nat} {o : Oper} {env : Env} {mem : Mem} {k : St → Prop}

theorem sub_den_off {ρ : Nm} {r lo sz len g : Nat} (hb : ρ.rb r = some ⟨g, 0, none⟩) : C.den ρ (.sub r lo sz len) = .slice (if ρ.rc r = lo then some ⟨g, 0, none⟩ else some ⟨g, lo * sz, none⟩) len (ρ.rc r - lo) := by
  simp only [C.den, hb, Option.map_some, addZ']

theorem append_rest {w : World} {T ty e : TypeId} {i : TypeInfo} {z : Value} {sz by_ : Nat} (hu : P.underlying T = some (.slice e)) (hi : P.info? e = some i) (hz : i.zero = some z) (hsz : i.size = sz) (hby : i.bytes = by_) (hzs : z.cells.size = sz) (hpos : 0 < sz) (hb1 : 1 ≤ by_)
    {ρ : Nm} {r lo : Nat} {es es2 : List (List C)} {F1 : Nat → Prop} (hR : Res.holds ρ r w F1 (.sl e sz es)) (hlo : lo ≤ es.length) (hpl2 : plainEs sz es2) (h2 : 0 < es2.length) {yv : Value} (hy : ∃ ad c, yv = .slice (some ad) es2.length c ∧ ∀ j u, (flat ρ es2)[j]? = some u → w.cell? (ad.add j) = some u)
    (hside : (es.length + es2.length) * by_ ≤ 140737488355328) :
    ∃ v' w', (Builtin.append_ #[T, T] ty #[C.den ρ (.sub r lo sz (es.length - lo)), yv]).run P w = .ok v' w' ∧ Grown w w' F1 e sz ρ es es2 lo v' := by
  have hnm : es.length + es2.length ≤ 140737488355328 := Nat.le_trans (Nat.le_mul_of_pos_right _ hb1) hside
  have hnews1 : ∀ u ∈ flat ρ es2, u.oneCell' = true := fun u hu => by
    obtain ⟨c, hc, rfl⟩ := List.mem_map.1 hu
    obtain ⟨x, hx, hcx⟩ := List.mem_flatten.1 hc
    exact C.one_den ρ ((hpl2 x hx).2 c hcx).2
  have hl2 := flat_length ρ hpl2
  obtain ⟨hpl, hrn, hown⟩ := hR
  -- what a nil row gives, and what a full one
  have fresh : ∀ {v' : Value} {w' : World}, (∃ (cap : Nat) (cur : Array Value), v' = .slice (some ⟨w.heap.size, 0, none⟩) ((es.drop lo).length + es2.length) cap ∧ w'.heap[w.heap.size]? = some (.cells cur e (0, 0)) ∧ (es.drop lo).length + es2.length ≤ cap ∧ cap ≤ maxLen ∧ cur.size = cap * sz ∧ cur.toList.take (((es.drop lo).length + es2.length) * sz) = flat ρ (es.drop lo) ++ flat ρ es2) →
      w'.os = w.os → w'.tape = w.tape → w'.output = w.output → w.heap.size ≤ w'.heap.size → (∀ b, b < w.heap.size → w'.heap[b]? = w.heap[b]?) → Grown w w' F1 e sz ρ es es2 lo v' := by
    rintro v' w' ⟨cap, cur, hv, hg, hc1, hc2, hc3, hc4⟩ h1 h2' h3 h4 h5
    refine ⟨⟨w.heap.size, cap, 0, es.drop lo ++ es2, cur, Nat.zero_le _, rfl, by rw [List.length_append, List.length_drop]; omega, plain_append (plain_drop hpl lo) hpl2, ?_, .inr rfl, hg, by rw [List.length_append]; exact hc1, hc2, hc3, by rw [List.length_append, flat_app]; exact hc4⟩, h1, h2', h3, h4, fun b hb _ => h5 b hb⟩
    rw [hv, List.length_append, Nat.zero_mul, Nat.sub_zero, Nat.sub_zero]
    split <;> rfl
  rcases hown with ⟨hF, hlen, hown⟩ | ⟨hF, rfl, hc0⟩
  · rcases hown with ⟨hv, h0⟩ | ⟨g, cap, cur, hv, _, hg, hnc, hcm, hcs, htk⟩
    · -- a nil row
      simp only [C.den, Value.slice.injEq] at hv
      have he : es = [] := List.eq_nil_of_length_eq_zero h0
      subst he
      have hlo0 : lo = 0 := by simpa using hlo
      subst hlo0
      obtain ⟨ad, c, rfl, hnews⟩ := hy
      obtain ⟨v', w', hr, hgrow, hres⟩ := append_run (P := P) (w := w) (t := T) (ty := ty) (v := .slice none 0 0) (yv := .slice (some ad) es2.length c) (n := 0) (m := es2.length) (xs := []) (news := flat ρ es2) (row := none)
        hu hi hz hsz hby hzs hpos hb1 (.inr ⟨rfl, rfl, rfl, none, rfl⟩) (.inr ⟨ad, c, rfl, hnews⟩) hl2 hnews1 (by simpa using hside)
      have hd : C.den ρ (.sub r 0 sz (([] : List (List C)).length - 0)) = .slice none 0 0 := by simp [C.den, hv.1, hv.2.2]
      rw [hd]
      refine ⟨v', w', hr, fresh ?_ hgrow.os hgrow.tape hgrow.output hgrow.size fun b hb => hgrow.block b hb (by simp)⟩
      rcases hres with ⟨k1, k2⟩ | ⟨k1, _⟩
      · rcases k1.2 with ⟨k3, k4⟩ | ⟨g', cap', cur', hv', _, hg', hc1, hc2, hc3, hc4⟩
        · omega
        · have hg2 : g' = w.heap.size := by
            rcases k2 with k2 | k2
            · rw [hv'] at k2; cases k2
            · rw [hv'] at k2; exact Option.some.inj k2
          subst hg2
          exact ⟨cap', cur', by simpa using hv', hg', by simpa using hc1, hc2, hc3, by simpa [flat] using hc4⟩
      · omega
    · -- a row of its own
      simp only [C.den, Value.slice.injEq] at hv
      obtain ⟨hb, _, hcap⟩ := hv
      rw [sub_den_off hb, hcap]
      obtain ⟨ad, c, rfl, hnews⟩ := hy
      have hdl : (es.drop lo).length = es.length - lo := by rw [List.length_drop]
      by_cases hroom : es.length - lo + es2.length ≤ cap - lo
      · -- in place
        have hne : ¬ cap = lo := by omega
        rw [if_neg hne]
        have e1 : lo * sz + (es.length - lo) * i.size = es.length * sz := by rw [hsz, ← Nat.add_mul]; congr 1; omega
        have hfit : lo * sz + (es.length - lo) * i.size + (flat ρ es2).length ≤ cur.size := by
          rw [e1, hl2, hcs, ← Nat.add_mul]; exact Nat.mul_le_mul_right _ (by omega)
        have hr := append_room_off (P := P) w T ty e i hu hi g (lo * sz) (es.length - lo) (cap - lo) cur hg ad es2.length c (flat ρ es2) (by rw [hsz]; exact hl2) hnews hnews1 hroom hfit
        rw [e1] at hr
        refine ⟨_, _, hr, ⟨⟨g, cap, lo, es ++ es2, _, by rw [List.length_append]; omega, ?_, by rw [List.length_append]; exact Nat.le_refl _, plain_append hpl hpl2, ?_, .inl ((hF g).2 (by simp [C.den, hb, Value.ownBlock])), setRow_heap w g cur _ e _ hg, by rw [List.length_append]; omega, hcm, ?_, ?_⟩, rfl, rfl, rfl, by simp [World.setRow], fun b hb' hn => setRow_other w g b _ fun e => hn ((hF b).2 (by simp [C.den, hb, Value.ownBlock, e]))⟩⟩
        · rw [List.drop_append_of_le_length hlo]
        · rw [if_neg hne, List.length_append]; congr 1; omega
        · rw [e1] at hfit
          simp only [List.size_toArray, List.length_append, List.length_take, List.length_drop, Array.length_toList]
          omega
        · rw [htk, List.length_append, flat_app]
          have : (flat ρ es ++ flat ρ es2).length = (es.length + es2.length) * sz := by rw [List.length_append, hl2, flat_length ρ hpl, Nat.add_mul]
          rw [← this]
          exact List.take_left
      · -- a new block
        have holds : ∀ j u, (flat ρ (es.drop lo))[j]? = some u → w.cell? (((if cap = lo then (⟨g, 0, none⟩ : Addr) else ⟨g, lo * sz, none⟩)).add j) = some u := by
          intro j u hj
          rw [flat_dropL ρ hpl hlo, List.getElem?_drop] at hj
          rw [← htk, List.getElem?_take] at hj
          split at hj
          · rename_i hlt
            split
            · rename_i hc
              have : (flat ρ es).length = es.length * sz := flat_length ρ hpl
              exfalso
              have h3 : lo = es.length := by omega
              rw [h3] at hlt
              omega
            · rw [add_none, cell_of_heap hg, ← Array.getElem?_toList]; exact hj
          · cases hj
        have hlo2 : (flat ρ (es.drop lo)).length = (es.length - lo) * i.size := by rw [flat_length ρ (plain_drop hpl lo), hdl, hsz]
        have hr := run_append_grow (P := P) w T ty e i z hu hi hz (if cap = lo then (⟨g, 0, none⟩ : Addr) else ⟨g, lo * sz, none⟩) (es.length - lo) (cap - lo) (flat ρ (es.drop lo)) hlo2 holds ad es2.length c (flat ρ es2) (by rw [hsz]; exact hl2) hnews (by omega) (by omega)
          (growslice_fits (by omega) (Nat.le_trans (Nat.mul_le_mul_right _ (show es.length - lo + es2.length ≤ es.length + es2.length by omega)) (by rw [hby]; exact hside)))
        have hge := grownCap_ge w (es.length - lo + es2.length) (cap - lo) e
        have hcm2 : grownCap w (es.length - lo + es2.length) (cap - lo) e ≤ maxLen := grownCap_le_maxLen w _ _ e (by simp only [maxLen]; omega)
        have hd : (if cap = lo then some (⟨g, 0, none⟩ : Addr) else some ⟨g, lo * sz, none⟩) = some (if cap = lo then (⟨g, 0, none⟩ : Addr) else ⟨g, lo * sz, none⟩) := by split <;> rfl
        rw [hd]
        refine ⟨_, _, hr, fresh ⟨_, _, by rw [hdl], heap_alloc_new w.drew _, by rw [hdl]; exact hge, hcm2, ?_, ?_⟩ rfl rfl rfl (by simp) fun b hb' => heap_alloc_old w.drew _ hb'⟩
        · simp only [Array.size_append, List.size_toArray, size_zeroCells, hzs, hlo2, hl2, hsz, ← Nat.add_mul]
          congr 1
          omega
        · have : (flat ρ (es.drop lo) ++ flat ρ es2).length = ((es.drop lo).length + es2.length) * sz := by rw [List.length_append, hl2, flat_length ρ (plain_drop hpl lo), Nat.add_mul]
          simp only [Array.toList_append]
          rw [← this]
          exact List.take_left
  · -- an empty slice
    have hlo0 : lo = 0 := by simpa using hlo
    subst hlo0
    obtain ⟨ad, c, rfl, hnews⟩ := hy
    obtain ⟨v', w', hr, hgrow, hres⟩ := append_run (P := P) (w := w) (t := T) (ty := ty) (v := .slice (ρ.rb r) 0 0) (yv := .slice (some ad) es2.length c) (n := 0) (m := es2.length) (xs := []) (news := flat ρ es2) (row := none)
      hu hi hz hsz hby hzs hpos hb1 (.inr ⟨rfl, rfl, rfl, ρ.rb r, rfl⟩) (.inr ⟨ad, c, rfl, hnews⟩) hl2 hnews1 (by simpa using hside)
    have hd : C.den ρ (.sub r 0 sz (([] : List (List C)).length - 0)) = .slice (ρ.rb r) 0 0 := by simp [C.den, hc0]
    rw [hd]
    refine ⟨v', w', hr, fresh ?_ hgrow.os hgrow.tape hgrow.output hgrow.size fun b hb => hgrow.block b hb (by simp)⟩
    rcases hres with ⟨k1, k2⟩ | ⟨k1, _⟩
    · rcases k1.2 with ⟨k3, k4⟩ | ⟨g', cap', cur', hv', _, hg', hc1, hc2, hc3, hc4⟩
      · omega
      · have hg2 : g' = w.heap.size := by
          rcases k2 with k2 | k2
          · rw [hv'] at k2; cases k2
          · rw [hv'] at k2; exact Option.some.inj k2
        subst hg2
        exact ⟨cap', cur', by simpa using hv', hg', by simpa using hc1, hc2, hc3, by simpa [flat] using hc4⟩
    · omega

theorem RestVC2.appendQ (ht : TyOk P tt) {T d r lo len : Nat} {s y : Operand} {e : TypeId} {by_ sz : Nat} {zc : List C} {es es2 : List (List C)} {cy : C} {p : Prop} {rest : Mem} (ho : o.op = .call ⟨.builtin .append, #[s, y], #[T, T]⟩) (hdst : o.dst = some d) (hty : tyElemZ tt T = some (e, sz, by_, zc))
    (hs : ev env s = some (.v (.c (.sub r lo sz len)))) (hy : ev env y = some (.v (.c cy))) (hr : takeN mem r = some (.sl e sz es, rest)) (hsrc : srcOf rest sz cy = some (p, es2)) (hp : p) (hlen : lo + len = es.length) (h2 : 0 < es2.length)
    (hfr : freshN D0 env rest d = true) (hside : (es.length + es2.length) * by_ ≤ 140737488355328)
    (h : ∀ (lo' : Nat) (es' : List (List C)), lo' ≤ es'.length → es'.drop lo' = es.drop lo ++ es2 → es'.length ≤ es.length + es2.length → k ⟨(d, .v (.c (.sub d lo' sz (es'.length - lo')))) :: env, (d, .sl e sz es') :: rest⟩) : RestVC2 P N D0 o env mem k := by
  refine ⟨⟨?_⟩⟩
  intro X ρ a w next Q hX hd hA hW hk
  subst hX
  have hfr' := freshN_spec hfr
  have hd' : dstOk N (some d) = true := hdst ▸ hd
  obtain ⟨hu, i, z, hi, hz, hsz, hby, hzs, hpos, hb1, hzl, hzp, hzd⟩ := tyElemZ_ok ht hty
  obtain ⟨F, hF, hF0⟩ := hW.mem
  obtain ⟨F1, F2, g1, g2, hR, g4⟩ := hF.perm (takeN_perm hr)
  obtain ⟨hpl2, hsrc2⟩ := src_ok g4 hsrc hp
  have hyv : ∃ ad c, C.den ρ cy = .slice (some ad) es2.length c ∧ ∀ j u, (flat ρ es2)[j]? = some u → w.cell? (ad.add j) = some u := by
    rcases hsrc2 with ⟨_, rfl⟩ | h
    · simp at h2
    · exact h
  have elen : len = es.length - lo := by omega
  subst elen
  obtain ⟨v', w', hrun1, hG⟩ := append_rest (P := P) (T := T) (ty := o.type) hu hi hz hsz hby hzs hpos hb1 hR (lo := lo) (by omega) hpl2 h2 hyv hside
  have hrun : (execOp a.eval o).run P w = .ok (.value v') w' := by
    simp only [execOp, ho, resolve, invoke, builtin, Sem.run_bind, Sem.run_pure, Result.andThen_ok, List.map_toArray, List.map_cons, List.map_nil, ev_den hA hs, ev_den hA hy, E.den, V.den, hrun1]
  obtain ⟨g, cap, lo', es', cur, hlo', hes', hel', hpl', hv', hgF, hg, hnc, hcm, hcs, htk⟩ := hG.out
  let ρ' := ρ.upd d (ρ.adr d) (some ⟨g, 0, none⟩) es'.length cap
  have hag : ∀ r, r ≠ d → ρ.agree ρ' r := fun r h => ρ.upd_agree h
  have hden : C.den ρ' (.sub d lo' sz (es'.length - lo')) = v' := by
    rw [hv', sub_den_off (g := g) (by simp [ρ', Nm.upd])]
    simp [ρ', Nm.upd]
  unfold Oper.wp
  rw [hrun, Oper.upon_value, hdst]
  refine hk _ ρ' _ _ (h lo' es' hlo' hes' hel') ?_ ?_
  · have := (hA.congr (ρ' := ρ') fun p hp r hr => hag r fun e => hfr'.2.1 p hp (e ▸ hr)).put hd' (.v (.c (.sub d lo' sz (es'.length - lo'))))
    simpa only [E.den, V.den, hden, putE] using this
  · refine hW.convF hF0 g1 g2 g4 hG.os hG.tape hG.output hG.size hag hfr'.1 hfr'.2.2 ⟨(· = g), ⟨hpl', by simp [ρ', Nm.upd], .inl ⟨fun b => by simp [C.den, ρ', Nm.upd, Value.ownBlock, eq_comm], ?_⟩⟩, fun b hb => ?_, hG.keep⟩
    · have e3 : flat ρ' es' = flat ρ es' := (flat_congr hpl').symm
      rw [e3]
      exact ⟨flat_length ρ hpl', .inr ⟨g, cap, cur, by simp [C.den, ρ', Nm.upd], Nat.zero_le _, hg, hnc, hcm, hcs, htk⟩⟩
    · rcases hgF with h | h
      · exact .inl (hb ▸ h)
      · exact .inr (by omega)

/-- The rest of the rest of a row. -/
theorem RestVC2.restQ (ht : TyOk P tt) {T d r lo len : Nat} {x l : Operand} {e e' : TypeId} {sz : Nat} {kd : IntKind} {n : Int} {es : List (List C)} {rest : Mem} (ho : o.op = .slice T x (some l) none none) (hdst : o.dst = some d) (hty : tyElem tt T = some (e', sz))
    (hx : ev env x = some (.v (.c (.sub r lo sz len)))) (hl : ev env l = some (.v (.c (.int kd n)))) (hr : takeN mem r = some (.sl e sz es, rest)) (hlen : lo + len = es.length) (hn : 0 ≤ n ∧ n ≤ len) (hfr : freshN D0 env rest d = true) (hpos : Nat.blt 0 sz = true)
    (h : ∀ (lo' : Nat) (es' : List (List C)), lo' ≤ es'.length → es'.drop lo' = (es.drop lo).drop n.toNat → es'.length ≤ es.length → k ⟨(d, .v (.c (.sub d lo' sz (es'.length - lo')))) :: env, (d, .sl e sz es') :: rest⟩) : RestVC2 P N D0 o env mem k := by
  refine ⟨⟨?_⟩⟩
  intro X ρ a w next Q hX hd hA hW hk
  subst hX
  have hfr' := freshN_spec hfr
  have hd' : dstOk N (some d) = true := hdst ▸ hd
  obtain ⟨hu, inf, hi1, hi2⟩ := tyElem_ok ht hty
  obtain ⟨nn, rfl⟩ := Int.eq_ofNat_of_zero_le hn.1
  have hnl : nn ≤ len := by omega
  obtain ⟨F, hF, hF0⟩ := hW.mem
  obtain ⟨F1, F2, g1, g2, hR, g4⟩ := hF.perm (takeN_perm hr)
  obtain ⟨q1, q2, q3, q4⟩ := row_ok hR (.sl e)
  have el : a.eval l = .int kd nn := ev_den hA hl
  have ex : a.eval x = C.den ρ (.sub r lo sz len) := ev_den hA hx
  have hcap : len ≤ ρ.rc r - lo := by omega
  have hcap2 : (len : Int) ≤ ((ρ.rc r - lo : Nat) : Int) := by omega
  have hbnd : ∀ w, (Instr.sliceBounds true len (ρ.rc r - lo) (some (.int kd nn)) none none).run P w = .ok (nn, len, ρ.rc r - lo) w := fun w => by
    simp [Instr.sliceBounds, Instr.sliceBound, asIntOf, hnl]
  have hrun : (execOp a.eval o).run P w = .ok (.value (.slice (if ρ.rc r - lo = nn then (if ρ.rc r = lo then ρ.rb r else (ρ.rb r).map (·.add (lo * sz))) else (if ρ.rc r = lo then ρ.rb r else (ρ.rb r).map (·.add (lo * sz))).map (·.add (nn * sz))) (len - nn) (ρ.rc r - lo - nn))) w := by
    simp only [execOp, ho, ex, C.den, Option.map_some, Option.map_none, el, Sem.run_bind]
    generalize (if ρ.rc r = lo then ρ.rb r else (ρ.rb r).map (·.add (lo * sz))) = q
    have : (Instr.sliceAt T (.slice q len (ρ.rc r - lo)) (some (.int kd nn)) none none).run P w = .ok (.slice (if ρ.rc r - lo = nn then q else q.map (·.add (nn * sz))) (len - nn) (ρ.rc r - lo - nn)) w := by
      simp [Instr.sliceAt, Instr.slice, run_underlying hu, hbnd, sizeOf, typeInfo, hi1, hi2]
    rw [this]; simp
  unfold Oper.wp
  rw [hrun, Oper.upon_value, hdst]
  by_cases hc : ρ.rc r - lo = nn
  · -- nothing is left, and no room
    rw [if_pos hc]
    have hl0 : len = nn := by omega
    let ρ' := ρ.upd d (ρ.adr d) (if ρ.rc r = lo then ρ.rb r else (ρ.rb r).map (·.add (lo * sz))) 0 0
    have hag : ∀ r, r ≠ d → ρ.agree ρ' r := fun r h => ρ.upd_agree h
    have hden : C.den ρ' (.sub d 0 sz 0) = .slice (if ρ.rc r = lo then ρ.rb r else (ρ.rb r).map (·.add (lo * sz))) (len - nn) (ρ.rc r - lo - nn) := by
      rw [hc, hl0, Nat.sub_self]
      simp [C.den, ρ', Nm.upd]
    refine hk _ ρ' _ _ (h 0 [] (Nat.le_refl _) ?_ (Nat.zero_le _)) ?_ ?_
    · rw [List.drop_drop]
      symm
      rw [Int.toNat_natCast]
      exact List.drop_eq_nil_of_le (by omega)
    · have := (hA.congr (ρ' := ρ') fun p hp r hr => hag r fun e => hfr'.2.1 p hp (e ▸ hr)).put hd' (.v (.c (.sub d 0 sz 0)))
      have e0 : E.den ρ' (.v (.c (.sub d 0 sz 0))) = _ := hden
      rw [e0] at this
      exact this
    · exact hW.convF hF0 g1 g2 g4 rfl rfl rfl (Nat.le_refl _) hag hfr'.1 hfr'.2.2 ⟨fun _ => False, ⟨fun x hx => (List.not_mem_nil hx).elim, by simp [ρ', Nm.upd], .inr ⟨fun b h => h, rfl, by simp [ρ', Nm.upd]⟩⟩, fun b h => h.elim, fun b _ _ => rfl⟩
  · rw [if_neg hc]
    have hne : ¬ ρ.rc r = lo := by omega
    have hne2 : ¬ ρ.rc r = lo + nn := by omega
    rw [if_neg hne]
    let ρ' := ρ.upd d (ρ.adr d) (ρ.rb r) (ρ.rn r) (ρ.rc r)
    have hag : ∀ r, r ≠ d → ρ.agree ρ' r := fun r h => ρ.upd_agree h
    have hden : C.den ρ' (.sub d (lo + nn) sz (es.length - (lo + nn))) = .slice (((ρ.rb r).map (·.add (lo * sz))).map (·.add (nn * sz))) (len - nn) (ρ.rc r - lo - nn) := by
      simp only [C.den, ρ', Nm.upd, if_true, if_neg hne2, Option.map_map]
      congr 1
      · congr 1
        funext ad
        simp only [Function.comp]
        rw [Addr.add_add', Nat.add_mul]
      · omega
      · omega
    refine hk _ ρ' _ _ (h (lo + nn) es (by omega) (by rw [List.drop_drop, Int.toNat_natCast]) (Nat.le_refl _)) ?_ ?_
    · have := (hA.congr (ρ' := ρ') fun p hp r hr => hag r fun e => hfr'.2.1 p hp (e ▸ hr)).put hd' (.v (.c (.sub d (lo + nn) sz (es.length - (lo + nn)))))
      simpa only [E.den, V.den, hden, putE] using this
    · refine hW.convF hF0 g1 g2 g4 rfl rfl rfl (Nat.le_refl _) hag hfr'.1 hfr'.2.2 ⟨F1, ?_, fun b hb => .inl hb, fun b _ _ => rfl⟩
      obtain ⟨k1, k2, k3⟩ := hR
      refine ⟨k1, by simpa [ρ', Nm.upd] using k2, ?_⟩
      have e1 : C.den ρ' (.sl d) = C.den ρ (.sl r) := by simp [C.den, ρ', Nm.upd]
      have e2 : flat ρ' es = flat ρ es := (flat_congr k1).symm
      rw [e1, e2]
      refine k3.imp id ?_
      rintro ⟨c1, c2, c3⟩
      exact ⟨c1, c2, by simpa [ρ', Nm.upd] using c3⟩
end

/-! ### A row as the rest of itself -/
def C.unrest (q sz n : Nat) : C → C
  | .sub r lo sz' len => match Nat.beq r q, Nat.beq lo 0, Nat.beq sz' sz, Nat.beq len n with
    | true, true, true, true => .sl q
    | _, _, _, _ => .sub r lo sz' len
  | c => c
def subEnvG (g : C → C) (s : Env) : Env → Prop
  | [] => True
  | (d, e) :: r => look s d = some (e.mapC g) ∧ subEnvG g s r
theorem subEnvG_get {g : C → C} {s : Env} : ∀ {t : Env}, subEnvG g s t → ∀ {d : Nat} {e : E}, (d, e) ∈ t → look s d = some (e.mapC g)
  | [], _, _, _, h => by cases h
  | (k, e') :: r, hs, d, e, h => by
    rcases List.mem_cons.1 h with h | h
    · simp only [Prod.mk.injEq] at h
      obtain ⟨rfl, rfl⟩ := h
      exact hs.1
    · exact subEnvG_get hs.2 h
theorem Sub.rest {D0 : List Nat} {s : St} {env : Env} {T : TypeId} {sz : Nat} {es : List (List C)} (q : Nat) (hm : look s.mem q = some (.sl T sz es)) (henv : subEnvG (C.unrest q sz es.length) s.env env) : Sub D0 s ⟨env, s.mem⟩ := by
  intro N x ρ a w hx hA hW
  obtain ⟨F, hF, _⟩ := hW.mem
  obtain ⟨F1, hR, _⟩ := hF.get hm
  have hrn : ρ.rn q = es.length := hR.2.1
  refine ⟨ρ, ⟨hA.dfr, hA.size, fun d e he => ?_⟩, hW⟩
  rw [hA.env d _ (subEnvG_get henv (look_mem he))]
  refine E.den_mapC fun c _ => ?_
  cases c with
  | sub r lo sz' len =>
    simp only [C.unrest]
    split
    · rename_i c1 c2 c3 c4
      have e1 := Nat.eq_of_beq_eq_true c1
      have e2 := Nat.eq_of_beq_eq_true c2
      have e3 := Nat.eq_of_beq_eq_true c3
      have e4 := Nat.eq_of_beq_eq_true c4
      subst e1 e2 e3 e4
      simp only [C.den, hrn, Nat.zero_mul, Nat.sub_zero]
      congr 1
      split
      · rfl
      · cases ρ.rb r with
        | none => rfl
        | some ad => simp [Addr.add]
    · rfl
  | _ => rfl
end Go.Proofs.YtblihaicbhdbdaaDoor.X
