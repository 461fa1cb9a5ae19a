/- Each single operation of the walk is sound. No condition. -/
import Derived.Test.YtaidpalamhmghaaDoorEx
namespace Go.Proofs.YtaidpalamhmghaaDoor.X
open Go.RowKit
set_option linter.unusedVariables false
set_option linter.unusedSimpArgs false

theorem add_none (b o n : Nat) : (⟨b, o, none⟩ : Addr).add n = ⟨b, o + n, none⟩ := by
  unfold Addr.add
  by_cases h : n = 0 <;> simp [h]

theorem flatten_get {sz : Nat} {es : List (List C)} (hp : ∀ x ∈ es, x.length = sz) : ∀ {i : Nat} {x : List C}, es[i]? = some x → ∀ {j : Nat} {c : C}, x[j]? = some c → es.flatten[i * sz + j]? = some c := by
  induction es with
  | nil => intro i x h; simp at h
  | cons y es ih =>
    intro i x h j c hj
    have hy := hp y (by simp)
    cases i with
    | zero =>
      simp at h
      subst h
      have hlt : j < y.length := (List.getElem?_eq_some_iff.1 hj).1
      rw [List.flatten_cons, List.getElem?_append_left (by omega)]
      simpa using hj
    | succ i =>
      simp at h
      rw [List.flatten_cons, List.getElem?_append_right (by rw [hy, Nat.succ_mul]; omega)]
      rw [hy, show (i + 1) * sz + j - sz = i * sz + j by rw [Nat.succ_mul]; omega]
      exact ih (fun x hx => hp x (by simp [hx])) h hj

theorem flat_get {ρ : Nm} {sz : Nat} {es : List (List C)} (hp : plainEs sz es) {i : Nat} {x : List C} (h : es[i]? = some x) {j : Nat} {c : C} (hj : x[j]? = some c) :
    (flat ρ es)[i * sz + j]? = some (c.den ρ) := by
  unfold flat
  rw [List.getElem?_map, flatten_get (fun x hx => (hp x hx).1) h hj]
  rfl

theorem cell_of_heap {w : World} {g : Nat} {c : Array Value} {T : TypeId} {fr : Nat × Nat} (h : w.heap[g]? = some (.cells c T fr)) (j : Nat) : w.cell? ⟨g, j, none⟩ = c[j]? := by
  simp [World.cell?, h]

theorem box_cell {ρ : Nm} {r : Nat} {w : World} {F : Nat → Prop} {T : TypeId} {cs : List C} (h : Res.holds ρ r w F (.box T cs)) {j : Nat} {c : C} (hj : cs[j]? = some c) :
    w.cell? ((⟨ρ.adr r, 0, none⟩ : Addr).add j) = some (c.den ρ) := by
  have e : (⟨ρ.adr r, 0, none⟩ : Addr).add j = ⟨ρ.adr r, j, none⟩ := by
    unfold Addr.add
    by_cases h0 : j = 0 <;> simp [h0]
  rw [e, cell_of_heap h.2]
  simp [hj]

theorem sl_cell {ρ : Nm} {r : Nat} {w : World} {F : Nat → Prop} {T : TypeId} {sz : Nat} {es : List (List C)} (h : Res.holds ρ r w F (.sl T sz es)) {i : Nat} {x : List C} (hi : es[i]? = some x) {j : Nat} {c : C} (hj : x[j]? = some c) :
    w.cell? ((((ρ.rb r).getD ⟨0, 0, none⟩).add (i * sz)).add j) = some (c.den ρ) := by
  have hf := flat_get (ρ := ρ) h.1 hi hj
  rw [Addr.add_add']
  rcases h.2.2 with ⟨_, _, ⟨h1, h2⟩ | ⟨g, cap, cur, hv, _, hg, _, _, _, ht⟩⟩ | ⟨_, h2, _⟩
  · have : es = [] := List.eq_nil_of_length_eq_zero h2
    subst this; simp at hi
  · simp only [C.den, Value.slice.injEq] at hv
    rw [hv.1]
    have e : ((some (⟨g, 0, none⟩ : Addr)).getD ⟨0, 0, none⟩).add (i * sz + j) = ⟨g, i * sz + j, none⟩ := add_none g 0 _ |>.trans (by simp)
    rw [e, cell_of_heap hg]
    rw [← ht, List.getElem?_take] at hf
    split at hf
    · rw [← Array.getElem?_toList]; exact hf
    · cases hf
  · subst h2; simp at hi

theorem ro_cell {ρ : Nm} {r : Nat} {w : World} {F : Nat → Prop} {o : Obj} {T : TypeId} {sz : Nat} {es : List (List C)} (h : Res.holds ρ r w F (.ro o T sz es)) {i : Nat} {x : List C} (hi : es[i]? = some x) {j : Nat} {c : C} (hj : x[j]? = some c) :
    w.cell? ((((ρ.rb r).getD ⟨0, 0, none⟩).add (i * sz)).add j) = some (c.den ρ) := by
  obtain ⟨h1, h2, _, ⟨_, h3, _⟩ | ⟨a, ha, _, _, h4⟩⟩ := h
  · subst h3; simp at hi
  · have hf := flat_get (ρ := ρ) h1 hi hj
    rw [Addr.add_add', ha]
    exact h4 _ _ hf

theorem fx_cell {ρ : Nm} {r : Nat} {w : World} {F : Nat → Prop} {T : TypeId} {sz : Nat} {es : List (List C)} (h : Res.holds ρ r w F (.ext (.fx T sz es))) {i : Nat} {x : List C} (hi : es[i]? = some x) {j : Nat} {c : C} (hj : x[j]? = some c) :
    w.cell? ((((ρ.rb r).getD ⟨0, 0, none⟩).add (i * sz)).add j) = some (c.den ρ) := by
  obtain ⟨h1, h2, _, g, cur, fr, ha, _, hg, _, _, ht⟩ := h
  have hf := flat_get (ρ := ρ) h1 hi hj
  rw [Addr.add_add', ha]
  have e : ((some (⟨g, 0, none⟩ : Addr)).getD ⟨0, 0, none⟩).add (i * sz + j) = ⟨g, i * sz + j, none⟩ := add_none g 0 _ |>.trans (by simp)
  rw [e, cell_of_heap hg]
  rw [← ht, List.getElem?_take] at hf
  split at hf
  · rw [← Array.getElem?_toList]; exact hf
  · cases hf

theorem isRow.cell {sz : Nat} {es : List (List C)} {R : Res} (h : isRow sz es R) {ρ : Nm} {r : Nat} {w : World} {F : Nat → Prop} (hR : R.holds ρ r w F) {i : Nat} {x : List C} (hi : es[i]? = some x) {j : Nat} {c : C} (hj : x[j]? = some c) :
    w.cell? ((((ρ.rb r).getD ⟨0, 0, none⟩).add (i * sz)).add j) = some (c.den ρ) := by
  cases h with
  | sl T => exact sl_cell hR hi hj
  | ro o T => exact ro_cell hR hi hj
  | fx T => exact fx_cell hR hi hj

theorem V.cells_names (v : V) : v.cells.flatMap C.names = v.names := by
  cases v <;> simp [V.cells, V.names]

theorem ofCell_names (x : Value) : (ofCell x).names = [] := by cases x <;> rfl

theorem ofConst_names (x : Value) : (ofConst x).names = [] := by
  cases x with
  | agg cs =>
    simp only [ofConst, V.names, List.flatMap_map]
    simp [ofCell_names]
  | _ => rfl

theorem ev_names {env : Env} {x : Operand} {e : E} (h : ev env x = some e) {r : Nat} (hr : r ∈ e.names) : ∃ p ∈ env, r ∈ p.2.names := by
  cases x with
  | tmp t => exact ⟨_, look_mem h, hr⟩
  | const v => simp only [ev, Option.some.injEq] at h; subst h; simp [E.names, ofConst_names] at hr
  | global g => simp only [ev, Option.some.injEq] at h; subst h; simp [E.names, V.names, C.names] at hr
  | func f => simp only [ev, Option.some.injEq] at h; subst h; simp [E.names, V.names, C.names] at hr

theorem evs_den {N : Nat} {ρ : Nm} {env : Env} {a : Act} (hA : SatA N ρ env a) : ∀ {xs : List Operand} {vs : List V}, evs env xs = some vs → xs.map a.eval = vs.map (V.den ρ)
  | [], vs, h => by simp only [evs, Option.some.injEq] at h; subst h; rfl
  | x :: xs, vs, h => by
    simp only [evs] at h
    split at h
    · rename_i v l hx hl
      obtain rfl := Option.some.inj h
      simp only [List.map_cons, evs_den hA hl, ev_den hA hx]
      rfl
    · cases h

theorem plainEs_set {sz i : Nat} {es : List (List C)} {y : List C} (hp : plainEs sz es) (hy : y.length = sz ∧ ∀ c ∈ y, c.names = [] ∧ c.one = true) : plainEs sz (es.set i y) := by
  intro z hz
  rcases List.mem_or_eq_of_mem_set hz with h | h
  · exact hp z h
  · exact h ▸ hy

theorem flatten_set {sz : Nat} {es : List (List C)} (hp : ∀ x ∈ es, x.length = sz) {i : Nat} {x : List C} (hi : es[i]? = some x) (y : List C) :
    (es.set i y).flatten = es.flatten.take (i * sz) ++ y ++ es.flatten.drop (i * sz + sz) := by
  induction es generalizing i with
  | nil => simp at hi
  | cons z es ih =>
    have hz := hp z (by simp)
    cases i with
    | zero => simp [hz]
    | succ i =>
      simp at hi
      have := ih (fun x hx => hp x (by simp [hx])) hi
      simp only [List.set_cons_succ, List.flatten_cons, this]
      rw [List.take_append, List.drop_append]
      have e1 : (i + 1) * sz = z.length + i * sz := by rw [hz, Nat.succ_mul]; omega
      rw [e1]
      simp [List.take_of_length_le, Nat.add_assoc]

theorem splice_inner {α : Type} (fl : List α) (a sz off : Nat) (cs : List α) (h1 : off + cs.length ≤ sz) (h2 : a + sz ≤ fl.length) :
    fl.take a ++ (((fl.drop a).take sz).take off ++ cs ++ ((fl.drop a).take sz).drop (off + cs.length)) ++ fl.drop (a + sz) = fl.take (a + off) ++ cs ++ fl.drop (a + off + cs.length) := by
  have e1 : ((fl.drop a).take sz).take off = (fl.drop a).take off := by rw [List.take_take, Nat.min_eq_left (by omega)]
  have e2 : ((fl.drop a).take sz).drop (off + cs.length) ++ fl.drop (a + sz) = fl.drop (a + off + cs.length) := by
    have e3 : fl.drop (a + sz) = (fl.drop (a + (off + cs.length))).drop (sz - (off + cs.length)) := by rw [List.drop_drop]; congr 1; omega
    rw [List.drop_take, List.drop_drop, e3, List.take_append_drop, Nat.add_assoc]
  rw [e1, List.append_assoc, List.append_assoc, e2, List.take_add]
  simp [List.append_assoc]
theorem splice_take {α : Type} (L : List α) (p m : Nat) (cs : List α) (h : p + cs.length ≤ m) (hm : m ≤ L.length) :
    (L.take p ++ cs ++ L.drop (p + cs.length)).take m = (L.take m).take p ++ cs ++ (L.take m).drop (p + cs.length) := by
  rw [List.take_take, Nat.min_eq_left (by omega), List.take_append, List.drop_take]
  have : (L.take p ++ cs).length = p + cs.length := by simp; omega
  rw [this, List.take_of_length_le (by omega)]

section
variable {P : Program} {tt : Ty} (ht : TyOk P tt) {N : Nat} {x : Cx} {o : Oper} {st : St} {k : St → Prop} {a : Act} {w : World} {ρ : Nm} {next : Act → World → Prop} {Q : Exit → Act → World → Prop}

theorem value_wp {e : E} {kk : St → Prop} (hd : dstOk N o.dst = true) (hA : SatA N ρ st.env a) (hW : SatW x ρ st.mem w) (hr : (execOp a.eval o).run P w = .ok (.value (e.den ρ)) w)
    (h : kk ⟨putE st.env o.dst e, st.mem⟩) (hk : ∀ st' ρ' a' w', kk st' → SatA N ρ' st'.env a' → SatW x ρ' st'.mem w' → next a' w') : o.wp P a w next Q := by
  unfold Oper.wp
  rw [hr]
  exact hk _ ρ _ w h (hA.put hd e) hW

theorem SatA.und (hA : SatA N ρ st.env a) (hd : dstOk N o.dst = true) : SatA N ρ (putE st.env o.dst .und) (a.put o.dst undef) := hA.put hd .und

theorem callvc_wp {f : FuncId} {args : List V} {env : Env} {mem : Mem} {K : List V → Mem → Prop} {R : Ending → World → Prop} (hA : ∀ p ∈ env, True) (hW : SatW x ρ mem w)
    (h : CallBy P x.D0 f args env mem K)
    (hk : ∀ vs m ρ' w', K vs m → (∀ p ∈ env, ∀ r ∈ p.2.names, ρ.agree ρ' r) → SatW x ρ' m w' → R (.returned (pk ρ' vs)) w') :
    Calls P f (args.map (V.den ρ)).toArray w R := by
  replace h := h.out
  obtain ⟨pre, rest, post, hp, hs, hpost⟩ := h
  obtain ⟨F, hF, hF0⟩ := hW.mem
  obtain ⟨F1, F2, g1, g2, g3, g4⟩ := MemSat.append.1 (hF.perm hp)
  refine (hs.run ρ w F1 g3).mono ?_
  rintro e w' ⟨ρ', vs, m, F', q1, rfl, q3, q4, q5, q6⟩
  obtain ⟨hok, hK⟩ := hpost vs m q1
  simp only [okRes, Bool.and_eq_true, List.all_eq_true, Bool.or_eq_true] at hok
  obtain ⟨ok1, ok2⟩ := hok
  have hasN_mem : ∀ {l : List Nat} {d : Nat}, hasN l d = true → d ∈ l := fun {l d} h => by
    obtain ⟨y, hy, hb⟩ := List.any_eq_true.1 h
    have := Nat.eq_of_beq_eq_true hb
    exact this ▸ hy
  let new : Nat → Bool := fun r => hasN (memNames m) r && !(hasN (memNames pre) r)
  let ρ'' : Nm := ⟨fun r => if new r then ρ'.adr r else ρ.adr r, fun r => if new r then ρ'.rb r else ρ.rb r, fun r => if new r then ρ'.rn r else ρ.rn r, fun r => if new r then ρ'.rc r else ρ.rc r, fun r => if new r then ρ'.rv r else ρ.rv r⟩
  have hnew : ∀ r, new r = true → ρ'.agree ρ'' r := fun r h => by simp [Nm.agree, ρ'', h]
  have hold : ∀ r, new r = false → ρ.agree ρ'' r := fun r h => by simp [Nm.agree, ρ'', h]
  have hnf : ∀ r, new r = true → freshN x.D0 env rest r = true := fun r h => by
    simp only [new, Bool.and_eq_true, Bool.not_eq_true'] at h
    rcases ok1 r (hasN_mem h.1) with h' | h'
    · rw [h.2] at h'; cases h'
    · exact h'
  have hpre : ∀ r, hasN (memNames pre) r = true → ρ'.agree ρ'' r := fun r h => by
    have hn : new r = false := by simp [new, h]
    exact (q6 r (hasN_mem h)).symm.trans (hold r hn)
  have hm' : ∀ r, hasN (memNames m) r = true → ρ'.agree ρ'' r := fun r h => by
    cases hq : hasN (memNames pre) r with
    | true => exact hpre r hq
    | false => exact hnew r (by simp [new, h, hq])
  have hres : ∀ r, r ∈ resNames vs m → ρ'.agree ρ'' r := fun r hr => by
    rcases ok2 r hr with h | h
    · exact hm' r h
    · exact hpre r h
  have hval : pk ρ' vs = pk ρ'' vs := by
    have hv : ∀ v ∈ vs, v.den ρ' = v.den ρ'' := fun v hv => v.den_congr fun r hr => hres r (List.mem_append.2 (.inl (List.mem_flatMap.2 ⟨v, hv, hr⟩)))
    unfold pk
    split
    · exact hv _ (by simp)
    · rw [List.map_congr_left hv]
  rw [hval]
  refine hk vs (m ++ rest) ρ'' w' hK (fun p hp r hr => ?_) ?_
  · refine hold r ?_
    cases hn : new r with
    | false => rfl
    | true => exact absurd hr ((freshN_spec (hnf r hn)).2.1 p hp)
  · have hlt : ∀ b, F2 b → b < w.heap.size := fun b hb => g4.lt hb
    refine ⟨⟨fun b => F' b ∨ F2 b, ?_, fun b hb => ?_⟩, q5.os.trans hW.os, q5.tape.trans hW.tape, q5.output.trans hW.output, Nat.le_trans hW.size q5.size, fun b k1 k2 => ?_, fun r hr => ?_⟩
    · refine MemSat.append.2 ⟨F', F2, fun _ => Iff.rfl, fun b k1 k2 => ?_, ?_, ?_⟩
      · rcases q4 b k1 with h | h
        · exact g2 b h k2
        · have := hlt b k2; omega
      · refine q3.congr fun p hp => ⟨hm' _ (List.any_eq_true.2 ⟨p.1, List.mem_map.2 ⟨p, hp, rfl⟩, by simp⟩), fun r hr => hres r (List.mem_append.2 (.inr (List.mem_flatMap.2 ⟨p, hp, hr⟩)))⟩
      · refine MemSat.congr (ρ := ρ) (fun p hp => ?_) (g4.frame fun b hb => q5.keep b (hlt b hb) fun h => g2 b h hb)
        have key : ∀ r, (r = p.1 ∨ r ∈ p.2.names) → ρ.agree ρ'' r := fun r hr => hold r (by
          cases hn : new r with
          | false => rfl
          | true =>
            have := (freshN_spec (hnf r hn)).2.2 p hp
            rcases hr with hr | hr
            · exact absurd hr.symm this.1
            · exact absurd hr this.2)
        exact ⟨key _ (.inl rfl), fun r hr => key r (.inr hr)⟩
    · rcases hb with hb | hb
      · rcases q4 b hb with h | h
        · exact hF0 b ((g1 b).2 (.inl h))
        · exact .inr (Nat.le_trans hW.size h)
      · exact hF0 b ((g1 b).2 (.inr hb))
    · rw [q5.keep b (Nat.lt_of_lt_of_le k1 hW.size) fun h => ?_]
      · exact hW.keep b k1 k2
      · rcases hF0 b ((g1 b).2 (.inl h)) with h' | h'
        · exact k2 h'
        · omega
    · refine (hW.agr r hr).trans (hold r ?_)
      cases hn : new r with
      | false => rfl
      | true => exact absurd hr (freshN_spec (hnf r hn)).1

theorem storeC_holds_box {r : Nat} {F : Nat → Prop} {T' : TypeId} {cs vs : List C} {off : Nat} {w : World} (h : Res.holds ρ r w F (.box T' cs)) (hl : off + vs.length ≤ cs.length) :
    Res.holds ρ r (w.setRow (ρ.adr r) ((cs.map (C.den ρ)).take off ++ vs.map (C.den ρ) ++ (cs.map (C.den ρ)).drop (off + vs.length)).toArray) F (.box T' (setAt cs off vs)) := by
  refine ⟨h.1, ?_⟩
  rw [setRow_heap _ _ _ _ _ _ h.2]
  simp [setAt, List.map_take, List.map_drop]

theorem sl_store {r : Nat} {F : Nat → Prop} {T' : TypeId} {sz i off : Nat} {es : List (List C)} {xx vs : List C} {w : World} (h : Res.holds ρ r w F (.sl T' sz es)) (hx : es[i]? = some xx)
    (hl : off + vs.length ≤ xx.length) (hpl : ∀ c ∈ vs, c.names = []) (h1 : ∀ c ∈ vs, c.one = true) :
    ∃ (g : Nat) (cur : List Value), ((ρ.rb r).getD ⟨0, 0, none⟩).add (i * sz + off) = ⟨g, i * sz + off, none⟩ ∧ w.heap[g]? = some (.cells cur.toArray T' (0, 0)) ∧ i * sz + off + vs.length ≤ cur.length ∧ F g ∧ (∀ b, F b → b = g) ∧
      Res.holds ρ r (w.setRow g (cur.take (i * sz + off) ++ vs.map (C.den ρ) ++ cur.drop (i * sz + off + vs.length)).toArray) F (.sl T' sz (es.set i (setAt xx off vs))) := by
  obtain ⟨hp, hn, ⟨hF, hlen, hown⟩ | ⟨_, he, _⟩⟩ := h
  case inr => subst he; simp at hx
  have hxl := (hp xx (List.mem_of_getElem? hx)).1
  have hi : i < es.length := (List.getElem?_eq_some_iff.1 hx).1
  rcases hown with ⟨_, h2⟩ | ⟨g, cap, cur, hv, hg0, hg, hnc, hcm, hcs, htk⟩
  · omega
  · have hv' := hv
    simp only [C.den, Value.slice.injEq] at hv'
    have hbound : i * sz + sz ≤ es.length * sz := by rw [← Nat.succ_mul]; exact Nat.mul_le_mul_right _ hi
    have hcl : es.length * sz ≤ cur.toList.length := by have e := @Array.length_toList _ cur; rw [e, hcs]; exact Nat.mul_le_mul_right _ hnc
    have hfl : (flat ρ es).length = es.length * sz := hlen
    have hy : (setAt xx off vs).length = sz ∧ ∀ c ∈ setAt xx off vs, c.names = [] ∧ c.one = true := by
      refine ⟨by simp [setAt]; omega, fun c hc => ?_⟩
      simp only [setAt, List.mem_append] at hc
      rcases hc with (hc | hc) | hc
      · exact (hp xx (List.mem_of_getElem? hx)).2 c (List.mem_of_mem_take hc)
      · exact ⟨hpl c hc, h1 c hc⟩
      · exact (hp xx (List.mem_of_getElem? hx)).2 c (List.mem_of_mem_drop hc)
    refine ⟨g, cur.toList, ?_, by simpa using hg, by omega, (hF g).2 (by rw [hv]; rfl), fun b hb => ?_, plainEs_set hp hy, by simpa using hn, .inl ⟨fun b => hF b, ?_, .inr ⟨g, cap, _, by simpa using hv, hg0, setRow_heap _ _ _ _ _ _ hg, by simpa using hnc, hcm, ?_, ?_⟩⟩⟩
    · rw [hv'.1]; exact add_none g 0 _ |>.trans (by simp)
    · have := (hF b).1 hb
      rw [hv] at this
      exact (Option.some.inj this).symm
    · unfold flat
      rw [List.length_map, flatten_set (fun x hx => (hp x hx).1) hx]
      have : es.flatten.length = es.length * sz := by have h3 := hfl; unfold flat at h3; rwa [List.length_map] at h3
      rw [List.length_append, List.length_append, List.length_take, List.length_drop, hy.1, this, List.length_set]; omega
    · have e := @Array.length_toList _ cur
      rw [e] at hcl
      simp only [List.size_toArray, List.length_append, List.length_take, List.length_drop, List.length_map, e]; omega
    · have hxx : xx.map (C.den ρ) = ((flat ρ es).drop (i * sz)).take sz := by
        apply List.ext_getElem?
        intro j
        rw [List.getElem?_take]
        by_cases hj : j < sz
        · rw [if_pos hj, List.getElem?_drop, List.getElem?_map]
          have : xx[j]? = some (xx[j]'(by omega)) := List.getElem?_eq_getElem _
          rw [flat_get hp hx this, this]; rfl
        · rw [if_neg hj, List.getElem?_eq_none (by simp; omega)]
      have e1 : flat ρ (es.set i (setAt xx off vs)) = (flat ρ es).take (i * sz) ++ (setAt xx off vs).map (C.den ρ) ++ (flat ρ es).drop (i * sz + sz) := by
        unfold flat
        rw [flatten_set (fun x hx => (hp x hx).1) hx]
        simp [List.map_take, List.map_drop]
      have e2 : (setAt xx off vs).map (C.den ρ) = (((flat ρ es).drop (i * sz)).take sz).take off ++ vs.map (C.den ρ) ++ (((flat ρ es).drop (i * sz)).take sz).drop (off + (vs.map (C.den ρ)).length) := by
        rw [← hxx]; simp [setAt, List.map_take, List.map_drop]
      rw [e1, e2, splice_inner _ _ _ _ _ (by simp; omega) (by omega), ← htk]
      have := splice_take cur.toList (i * sz + off) (es.length * sz) (vs.map (C.den ρ)) (by simp; omega) hcl
      simp only [List.length_map] at this ⊢
      simpa using this

theorem exM_sound (ht : TyOk P tt) (hd : dstOk N o.dst = true) (hA : SatA N ρ st.env a) (hW : SatW x ρ st.mem w) (h : exM P tt N x.D0 o st.env st.mem k)
    (hk : ∀ st' ρ' a' w', k st' → SatA N ρ' st'.env a' → SatW x ρ' st'.mem w' → next a' w') : o.wp P a w next Q := by
  unfold exM at h
  generalize ho : o.op = op at h
  obtain ⟨F, hF, hF0⟩ := hW.mem
  cases op <;> try (dsimp only at h; exact h.out x ρ a w next Q rfl hd hA hW hk; done)
  case load T y =>
    dsimp only at h
    have fin : ∀ (v : V) (ad : Addr), a.eval y = .pointer (some ad) → (loadVar T ad).run P w = .ok (v.den ρ) w → k ⟨putE st.env o.dst (.v v), st.mem⟩ → o.wp P a w next Q := fun v ad h1 h2 h3 =>
      value_wp (e := .v v) (kk := k) hd hA hW (by simp [execOp, ho, h1, Instr.loadAt, Instr.sureAddr, h2, E.den]) h3 hk
    split at h
    · rename_i r off hy
      split at h
      · rename_i T' cs hl
        split at h
        · rename_i v hv
          obtain ⟨F', hR, _⟩ := hF.get hl
          have := loadC_run ht (ρ := ρ) (ad := ⟨ρ.adr r, 0, none⟩) (w := w) (fun j c hj => box_cell hR hj) hv
          refine fin v _ (ev_den hA hy) ?_ h
          rw [add_none] at this
          simpa using this
        · exact h.out x ρ a w next Q rfl hd hA hW hk
      · exact h.out x ρ a w next Q rfl hd hA hW hk
    · rename_i r i sz off hy
      split at h
      · rename_i sz' es hl
        split at h
        · rename_i hsz
          have hsz' : sz = sz' := of_decide_eq_true hsz
          subst hsz'
          replace h := h.out
          obtain ⟨xx, hx, h⟩ := h
          split at h
          · rename_i v hv
            obtain ⟨RR, hl', hir⟩ := rowRes_is hl
            obtain ⟨F', hR, _⟩ := hF.get hl'
            have := loadC_run ht (ρ := ρ) (ad := ((ρ.rb r).getD ⟨0, 0, none⟩).add (i * sz)) (w := w) (fun j c hj => hir.cell hR hx hj) hv
            refine fin v _ (ev_den hA hy) ?_ h
            rw [Addr.add_add'] at this
            exact this
          · exact h.out x ρ a w next Q rfl hd hA hW hk
        · exact h.out x ρ a w next Q rfl hd hA hW hk
      · exact h.out x ρ a w next Q rfl hd hA hW hk
    · exact h.out x ρ a w next Q rfl hd hA hW hk
  case store T y z =>
    dsimp only at h
    have fin : ∀ (v : V) (ad : Addr) (w' : World) (mem' : Mem), a.eval y = .pointer (some ad) → a.eval z = v.den ρ → (storeVar T ad (v.den ρ)).run P w = .ok () w' → SatW x ρ mem' w' → k ⟨putE st.env o.dst .und, mem'⟩ → o.wp P a w next Q := fun v ad w' mem' h1 h2 h3 h4 h5 => by
      have hr : (execOp a.eval o).run P w = .ok .skip w' := by simp [execOp, ho, h1, h2, Instr.storeAt, Instr.sureAddr, h3]
      unfold Oper.wp
      rw [hr]
      exact hk _ ρ _ w' h5 (hA.put hd .und) h4
    split at h
    · rename_i r off v hy hz
      split at h
      · rename_i T' cs hl
        split at h
        · rename_i c1 c2 c3
          obtain ⟨F', hR, _⟩ := hF.get hl
          have hle := Nat.le_of_ble_eq_true c3
          have hrun := storeVar_run (P := P) (ρ := ρ) (o := off) ht hR.2 c1 c2 (by simpa using hle)
          refine fin v _ _ _ (ev_den hA hy) (ev_den hA hz) hrun ?_ h
          obtain ⟨rest, p1, p2⟩ := memSet_perm hl
          refine (SatW.write (w' := w.setRow (ρ.adr r) _) hW p1 rfl rfl rfl (by simp) fun F1 h1 => ⟨F1, storeC_holds_box h1 hle, fun b hb => hb, fun b _ hb => setRow_other _ _ _ _ fun e => hb ((h1.1 b).2 e)⟩).perm (p2 _)
        · exact h.out x ρ a w next Q rfl hd hA hW hk
      · exact h.out x ρ a w next Q rfl hd hA hW hk
    · rename_i r i sz off v hy hz
      split at h
      · rename_i T' sz' es hl
        split at h
        · rename_i c0 c1 c2 c3
          have hsz' : sz = sz' := of_decide_eq_true c0
          subst hsz'
          replace h := h.out
          obtain ⟨xx, hx, h⟩ := h
          split at h
          · rename_i c4
            obtain ⟨F', hR, _⟩ := hF.get hl
            have hle := Nat.le_of_ble_eq_true c4
            have hpl : ∀ c ∈ v.cells, c.names = [] := fun c hc => by simpa using List.all_eq_true.1 c3 c hc
            have h1 : ∀ c ∈ v.cells, c.one = true := fun c hc => List.all_eq_true.1 c2 c hc
            obtain ⟨g, cur, q1, q2, q3, q4, q5, q6⟩ := sl_store hR hx hle hpl h1
            have hrun := storeVar_run (P := P) (ρ := ρ) (o := i * sz + off) ht q2 c1 c2 q3
            refine fin v _ _ _ (ev_den hA hy) (ev_den hA hz) (by rw [q1]; exact hrun) ?_ h
            obtain ⟨rest, p1, p2⟩ := memSet_perm hl
            refine (SatW.write (w' := w.setRow g _) hW p1 rfl rfl rfl (by simp) fun F1 h1' => ?_).perm (p2 _)
            obtain ⟨g', cur', r1, r2, r3, r4, r5, r6⟩ := sl_store h1' hx hle hpl h1
            have hgg : g = g' := by rw [q1] at r1; exact (Addr.mk.inj r1).1
            subst hgg
            have hcc : cur = cur' := by rw [q2] at r2; simpa using r2
            subst hcc
            exact ⟨F1, r6, fun b hb => hb, fun b _ hb => setRow_other _ _ _ _ fun e => hb (e ▸ r4)⟩
          · exact h.out x ρ a w next Q rfl hd hA hW hk
        · exact h.out x ρ a w next Q rfl hd hA hW hk
      · exact h.out x ρ a w next Q rfl hd hA hW hk
    · exact h.out x ρ a w next Q rfl hd hA hW hk
  case box T y =>
    dsimp only at h
    split at h
    · rename_i d v hdst hy
      split at h
      · rename_i c1 c2
        have hfr := freshN_spec c1
        have hd' : dstOk N (some d) = true := hdst ▸ hd
        have hcells := V.den_cells ρ c2
        have hr : (execOp a.eval o).run P w = .ok (.value (.pointer (some ⟨w.heap.size, 0, none⟩))) (w.alloc (.cells (v.cells.map (C.den ρ)).toArray T)) := by
          simp only [execOp, ho, ev_den hA hy, E.den, Instr.box, newVar, newRow, hcells]
          rfl
        unfold Oper.wp
        rw [hr, Oper.upon_value, hdst]
        let ρ' := ρ.upd d w.heap.size (ρ.rb d) (ρ.rn d) (ρ.rc d)
        have hag : ∀ r, r ≠ d → ρ.agree ρ' r := fun r h => ρ.upd_agree h
        have hvn : ∀ r ∈ v.cells.flatMap C.names, r ≠ d := fun r hr e => by
          obtain ⟨p, hp, hpr⟩ := ev_names hy (r := r) (by rw [V.cells_names] at hr; exact hr)
          exact hfr.2.1 p hp (e ▸ hpr)
        have hadr : ρ'.adr d = w.heap.size := by simp [ρ', Nm.upd]
        refine hk _ ρ' _ _ h ?_ (hW.alloc hag hfr.1 hfr.2.2 ⟨fun b => by rw [hadr], ?_⟩)
        · have := (hA.congr (ρ' := ρ') fun p hp r hr => hag r fun e => hfr.2.1 p hp (e ▸ hr)).put hd' (.v (.c (.ptr d 0)))
          simpa [E.den, V.den, C.den, hadr, putE] using this
        · rw [hadr, ← C.den_list_congr (ρ := ρ) _ fun r hr => hag r (hvn r hr)]
          exact heap_alloc_new w _
      · exact h.out x ρ a w next Q rfl hd hA hW hk
    · exact h.out x ρ a w next Q rfl hd hA hW hk
  case alloc T =>
    dsimp only at h
    split at h
    · rename_i d cs hdst hz
      split at h
      · rename_i c1
        have hfr := freshN_spec c1
        have hd' : dstOk N (some d) = true := hdst ▸ hd
        unfold tyZero at hz
        split at hz
        · rename_i t hl
          obtain rfl := Option.some.inj hz
          obtain ⟨i, hi1, hi2, hi3, z, hz1, hz2⟩ := (ht.get hl).info
          have hcd : ∀ ρ : Nm, ((t.zero.map ofCell).map (C.den ρ)).toArray = z.cells := fun ρ => by
            rw [hz2, List.map_map]
            have : t.zero.map (C.den ρ ∘ ofCell) = t.zero := by
              conv => rhs; rw [← List.map_id t.zero]
              exact List.map_congr_left fun c _ => ofCell_den ρ c
            rw [this]
          have hr : (execOp a.eval o).run P w = .ok (.value (.pointer (some ⟨w.heap.size, 0, none⟩))) (w.alloc (.cells z.cells T)) := by
            simp [execOp, ho, Instr.alloc, zeroValue, typeInfo, hi1, hz1, newVar, newRow]
          unfold Oper.wp
          rw [hr, Oper.upon_value, hdst]
          let ρ' := ρ.upd d w.heap.size (ρ.rb d) (ρ.rn d) (ρ.rc d)
          have hag : ∀ r, r ≠ d → ρ.agree ρ' r := fun r h => ρ.upd_agree h
          have hadr : ρ'.adr d = w.heap.size := by simp [ρ', Nm.upd]
          refine hk _ ρ' _ _ h ?_ (hW.alloc hag hfr.1 hfr.2.2 ⟨fun b => by rw [hadr], ?_⟩)
          · have := (hA.congr (ρ' := ρ') fun p hp r hr => hag r fun e => hfr.2.1 p hp (e ▸ hr)).put hd' (.v (.c (.ptr d 0)))
            simpa [E.den, V.den, C.den, hadr, putE] using this
          · rw [hadr, hcd]
            exact heap_alloc_new w _
        · cases hz
      · exact h.out x ρ a w next Q rfl hd hA hW hk
    · exact h.out x ρ a w next Q rfl hd hA hW hk
  case pick c y z =>
    dsimp only at h
    split at h
    · rename_i b hc
      replace h := h.out
      have fin : ∀ y', (match ev st.env y' with | some e => k ⟨putE st.env o.dst e, st.mem⟩ | none => OpVC P N x.D0 o st.env st.mem k) → a.eval y' = (if b = true then a.eval y else a.eval z) → o.wp P a w next Q := fun y' h h2 => by
        split at h
        · rename_i e he
          refine value_wp (e := e) (kk := k) hd hA hW ?_ h hk
          simp [execOp, ho, ev_den hA hc, E.den, V.den, C.den, asBool, ← h2, ev_den hA he]
        · exact h.out x ρ a w next Q rfl hd hA hW hk
      cases b with
      | true => exact fin y (h.1 rfl) rfl
      | false => exact fin z (h.2 rfl) rfl
    · exact h.out x ρ a w next Q rfl hd hA hW hk
  case call c =>
    obtain ⟨callee, args, tys⟩ := c
    cases callee <;> dsimp only at h <;> try (exact h.out x ρ a w next Q rfl hd hA hW hk; done)
    case value fx =>
      split at h
      · rename_i f caps vs hf hvs
        obtain ⟨hok, hcall⟩ := h.out
        obtain ⟨fn, hfn, hname, hbody⟩ := hok
        have hargs : args.map a.eval = (vs.map (V.den ρ)).toArray := by
          have := evs_den hA hvs
          rw [← this, ← Array.toList_map]
        have hcap : (capV caps).map (V.den ρ) = caps.map fun r => Value.pointer (some ⟨ρ.adr r, 0, none⟩) := by
          unfold capV; rw [List.map_map]; rfl
        have hr : (execOp a.eval o).run P w = .ok (.enter f ((vs ++ capV caps).map (V.den ρ)).toArray) w := by
          simp only [execOp, ho, resolve, ev_den hA hf, E.den, V.den, C.den, Deferred.ofValue, hargs, List.map_append, hcap]
          simp only [invoke, callFunc, Sem.run_bind, Sem.run_pure, run_program, Result.andThen_ok, hfn, hname, hbody, Bool.false_eq_true, if_false]
          simp
        unfold Oper.wp
        rw [hr, Oper.upon_enter]
        refine hcall x ρ w _ rfl hW fun rs m ρ' w' hK hag hW' => ?_
        have hpk : pk ρ' rs = (resE rs).den ρ' := by
          unfold pk resE
          split <;> rfl
        show next (a.put o.dst (pk ρ' rs)) w'
        rw [hpk]
        exact hk _ ρ' _ w' hK ((hA.congr hag).put hd _) hW'
      · exact h.out x ρ a w next Q rfl hd hA hW hk
end

end Go.Proofs.YtaidpalamhmghaaDoor.X
