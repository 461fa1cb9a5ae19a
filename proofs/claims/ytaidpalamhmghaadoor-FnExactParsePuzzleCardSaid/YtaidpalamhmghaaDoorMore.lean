/- More operations of the walk: literals, made slices, append, bits, slices of slices. No condition. -/
import Derived.Test.YtaidpalamhmghaaDoorQuiet
import Derived.Maps.AppendAt
import Derived.Great.BuildSlice
import Derived.Laws.MakeOwn
import Derived.Laws.OwnMore
namespace Go.Proofs.YtaidpalamhmghaaDoor.X
open Go.RowKit
set_option linter.unusedVariables false
set_option linter.unusedSimpArgs false

/-! ### Literals -/
def fillC (pl : Nat → Option (Nat × Nat)) : List C → List (Nat × V) → Option (List C)
  | cs, [] => some cs
  | cs, (i, v) :: r => match pl i with
    | some (o, s) => match Nat.beq v.cells.length s, v.cells.all C.one, Nat.ble (o + v.cells.length) cs.length with
      | true, true, true => fillC pl (setAt cs o v.cells) r
      | _, _, _ => none
    | none => none

theorem fold_setAt {ρ : Nm} {cs vs : List C} {o : Nat} (h : o + vs.length ≤ cs.length) :
    ((vs.map (C.den ρ)).toArray.zipIdx.foldl (fun cs (x : Value × Nat) => cs.setIfInBounds (o + x.2) x.1) (cs.map (C.den ρ)).toArray) = ((setAt cs o vs).map (C.den ρ)).toArray := by
  rw [← Array.foldl_toList, Array.toList_zipIdx]
  obtain ⟨h1, h2⟩ := Great.foldl_set o (vs.map (C.den ρ)) 0 (cs.map (C.den ρ)).toArray
  apply Array.ext_getElem?
  intro k
  have := h2 k
  simp only [Nat.add_zero, List.length_map, List.size_toArray] at this ⊢
  rw [this]
  simp only [setAt, List.getElem?_toArray, List.getElem?_map]
  by_cases hk : o ≤ k ∧ k < o + vs.length ∧ k < cs.length
  · rw [if_pos hk, List.getElem?_append_left (by simp; omega), List.getElem?_append_right (by simp; omega)]
    simp only [List.length_take, Nat.min_eq_left (show o ≤ cs.length by omega)]
  · rw [if_neg hk]
    by_cases h3 : k < o
    · rw [List.getElem?_append_left (by simp; omega), List.getElem?_append_left (by simp; omega), List.getElem?_take, if_pos h3]
    · rw [List.getElem?_append_right (by simp; omega), List.getElem?_drop]
      congr 2
      simp only [List.length_append, List.length_take]
      by_cases h4 : k < cs.length
      · omega
      · omega

theorem fillC_den {ρ : Nm} {pl : Nat → Option (Nat × Nat)} : ∀ {parts : List (Nat × V)} {cs cs' : List C}, fillC pl cs parts = some cs' →
    Instr.fill pl (cs.map (C.den ρ)).toArray (parts.map fun x => (x.1, x.2.den ρ)) = some (cs'.map (C.den ρ)).toArray
  | [], cs, cs', h => by
    simp only [fillC, Option.some.injEq] at h
    subst h; rfl
  | (i, v) :: r, cs, cs', h => by
    simp only [fillC] at h
    split at h
    · rename_i o s hp
      split at h
      · rename_i c1 c2 c3
        have hs := Nat.eq_of_beq_eq_true c1
        have hle := Nat.le_of_ble_eq_true c3
        have hc := V.den_cells ρ c2
        have ih := fillC_den (ρ := ρ) h
        simp only [List.map_cons, Instr.fill, hp, hc, List.size_toArray, List.length_map]
        rw [if_neg (by simp; omega)]
        rw [fold_setAt hle]
        exact ih
      · cases h
    · cases h

def evParts (env : Env) : List (Nat × Operand) → Option (List (Nat × V))
  | [] => some []
  | (i, x) :: r => match ev env x, evParts env r with
    | some (.v v), some l => some ((i, v) :: l)
    | _, _ => none

theorem evParts_den {N : Nat} {ρ : Nm} {env : Env} {a : Act} (hA : SatA N ρ env a) : ∀ {l : List (Nat × Operand)} {vs : List (Nat × V)}, evParts env l = some vs →
    l.map (fun x => (x.1, a.eval x.2)) = vs.map fun x => (x.1, x.2.den ρ)
  | [], vs, h => by simp only [evParts, Option.some.injEq] at h; subst h; rfl
  | (i, x) :: r, vs, h => by
    simp only [evParts] at h
    split at h
    · rename_i v l hx hl
      simp only [Option.some.injEq] at h
      subst h
      simp only [List.map_cons, evParts_den hA hl, ev_den hA hx]
      rfl
    · cases h

theorem struct_places {P : Program} : ∀ {fs : List Field} {l : List (Nat × Nat)}, fs.length = l.length →
    (∀ (i o s : Nat), l[i]? = some (o, s) → ∃ (f : Field) (j : TypeInfo), fs[i]? = some f ∧ f.offset = o ∧ P.info? f.type = some j ∧ j.size = s ∧ s ≠ 0) →
    fs.mapM (fun f => (P.info? f.type).map fun i => (f.offset, i.size)) = some l
  | [], [], _, _ => rfl
  | [], _ :: _, h, _ => by simp at h
  | _ :: _, [], h, _ => by simp at h
  | f :: fs, (o, s) :: l, h, hh => by
    obtain ⟨f', j, h1, h2, h3, h4, _⟩ := hh 0 o s rfl
    simp only [List.getElem?_cons_zero, Option.some.injEq] at h1
    subst h1
    have ih := struct_places (P := P) (fs := fs) (l := l) (by simpa using h) fun i o s hi => by
      have := hh (i + 1) o s (by simpa using hi)
      simpa using this
    simp [List.mapM_cons, h2, h3, h4, ih]

/-- A literal of a struct. -/
def buildC (tt : Ty) (env : Env) (T : TypeId) (parts : List (Nat × Operand)) : Option (List C) := match look tt T, evParts env parts with
  | some ⟨.struct l, _, _, _, z⟩, some vs => fillC (fun i => l[i]?) (z.map ofCell) vs
  | _, _ => none

theorem map_ofCell (ρ : Nm) (l : List Value) : (l.map ofCell).map (C.den ρ) = l := by
  rw [List.map_map]
  conv => rhs; rw [← List.map_id l]
  exact List.map_congr_left fun c _ => ofCell_den ρ c

theorem buildC_run {P : Program} {tt : Ty} (ht : TyOk P tt) {N : Nat} {ρ : Nm} {env : Env} {a : Act} {w : World} {T : TypeId} {parts : Array (Nat × Operand)} {cs : List C}
    (hA : SatA N ρ env a) (h : buildC tt env T parts.toList = some cs) :
    (Instr.build T (parts.map fun (i, x) => (i, a.eval x))).run P w = .ok (.agg (cs.map (C.den ρ)).toArray) w := by
  unfold buildC at h
  split at h
  · rename_i l sz by_ ag z vs hl hv
    have hti := ht.get hl
    obtain ⟨fs, hu, hn, hf⟩ := hti.kind
    obtain ⟨i, hi1, _, _, zz, hz1, hz2⟩ := hti.info
    apply run_build
    have hp := struct_places (P := P) (fs := fs.toList) (l := l) (by simpa using hn) fun i o s hi => by
      obtain ⟨f, j, g1, g2⟩ := hf i o s hi
      exact ⟨f, j, by simpa using g1, g2⟩
    have hparts : (parts.map fun (x : Nat × Operand) => (x.1, a.eval x.2)).toList = vs.map fun x => (x.1, x.2.den ρ) := by
      rw [Array.toList_map]; exact evParts_den hA hv
    have := fillC_den (ρ := ρ) h
    rw [map_ofCell] at this
    simp only at hz2
    unfold Program.built
    simp only [hi1, hu, hz1, hz2, hp, Option.bind_some]
    rw [show (parts.map fun (i, x) => (i, a.eval x)).toList = vs.map fun x => (x.1, x.2.den ρ) from hparts]
    simpa only [List.getElem?_toArray] using this
  · cases h

/-! ### New rows -/
def zerosC (z : List C) : Nat → List C
  | 0 => []
  | n + 1 => z ++ zerosC z n

def chunk (sz : Nat) : Nat → List C → List (List C)
  | 0, _ => []
  | n + 1, l => l.take sz :: chunk sz n (l.drop sz)

theorem length_zerosC (z : List C) : ∀ n, (zerosC z n).length = n * z.length
  | 0 => by simp [zerosC]
  | n + 1 => by simp [zerosC, length_zerosC z n, Nat.succ_mul]; omega

theorem chunk_flatten (sz : Nat) : ∀ (n : Nat) (l : List C), l.length = n * sz → (chunk sz n l).flatten = l
  | 0, l, h => by simp at h; simp [chunk, h]
  | n + 1, l, h => by
    have : (l.drop sz).length = n * sz := by simp [h, Nat.succ_mul]
    simp [chunk, chunk_flatten sz n _ this]

theorem length_chunk (sz : Nat) : ∀ (n : Nat) (l : List C), (chunk sz n l).length = n
  | 0, l => rfl
  | n + 1, l => by simp [chunk, length_chunk sz n]

theorem chunk_size (sz : Nat) : ∀ (n : Nat) (l : List C), l.length = n * sz → ∀ x ∈ chunk sz n l, x.length = sz
  | 0, l, h, x, hx => by simp [chunk] at hx
  | n + 1, l, h, x, hx => by
    have h2 : (l.drop sz).length = n * sz := by simp [h, Nat.succ_mul]
    simp only [chunk, List.mem_cons] at hx
    rcases hx with rfl | hx
    · simp [h, Nat.succ_mul]
    · exact chunk_size sz n _ h2 x hx

def cellsPlain (l : List C) : Bool := l.all fun c => c.one && c.names.isEmpty

theorem chunk_plain {sz n : Nat} {l : List C} (h : l.length = n * sz) (hp : cellsPlain l = true) : plainEs sz (chunk sz n l) := by
  intro x hx
  refine ⟨chunk_size sz n l h x hx, fun c hc => ?_⟩
  have : c ∈ l := by rw [← chunk_flatten sz n l h]; exact List.mem_flatten.2 ⟨x, hx, hc⟩
  have := List.all_eq_true.1 hp c this
  simp only [Bool.and_eq_true, List.isEmpty_iff] at this
  exact ⟨this.2, this.1⟩

theorem zeros_den (ρ : Nm) (z : List C) (hz : 0 < z.length) (n : Nat) :
    ((Array.range (n * z.length)).map (fun j => (z.map (C.den ρ)).toArray[j % (z.map (C.den ρ)).toArray.size]!)) = ((zerosC z n).map (C.den ρ)).toArray := by
  have get : ∀ n k, k < n * z.length → (zerosC z n)[k]? = z[k % z.length]? := by
    intro n
    induction n with
    | zero => intro k hk; simp at hk
    | succ n ih =>
      intro k hk
      rw [Nat.succ_mul] at hk
      simp only [zerosC]
      by_cases h : k < z.length
      · rw [List.getElem?_append_left h, Nat.mod_eq_of_lt h]
      · rw [List.getElem?_append_right (by omega), ih _ (by omega)]
        congr 1
        conv => rhs; rw [show k = (k - z.length) + z.length by omega, Nat.add_mod_right]
  apply Array.ext_getElem?
  intro k
  by_cases hk : k < n * z.length
  · have hm : k % z.length < z.length := Nat.mod_lt _ hz
    simp only [Array.getElem?_map, List.getElem?_toArray, List.getElem?_map, get n k hk]
    rw [Array.getElem?_range, if_pos hk]
    simp [hm]
  · rw [Array.getElem?_eq_none (by simp; omega), Array.getElem?_eq_none (by simp [length_zerosC]; omega)]

section
variable {P : Program} {tt : Ty} {N : Nat} {x : Cx} {o : Oper} {st : St} {k : St → Prop} {a : Act} {w : World} {ρ : Nm} {next : Act → World → Prop} {Q : Exit → Act → World → Prop}

/-- A new row of its own. -/
theorem newsl_wp {d n c sz : Nat} {T : TypeId} {cs : Array Value} {es : List (List C)} (hd : dstOk N o.dst = true) (hA : SatA N ρ st.env a) (hW : SatW x ρ st.mem w)
    (hdst : o.dst = some d) (hfr : freshN x.D0 st.env st.mem d = true)
    (hr : (execOp a.eval o).run P w = .ok (.value (.slice (some ⟨w.heap.size, 0, none⟩) n c)) (w.alloc (.cells cs T)))
    (hpl : plainEs sz es) (hn : es.length = n) (hnc : n ≤ c) (hcm : c ≤ maxLen) (hcs : cs.size = c * sz) (htk : cs.toList.take (n * sz) = flat ρ es)
    (h : k ⟨(d, .v (.c (.sl d))) :: st.env, (d, .sl T sz es) :: st.mem⟩)
    (hk : ∀ st' ρ' a' w', k st' → SatA N ρ' st'.env a' → SatW x ρ' st'.mem w' → next a' w') : o.wp P a w next Q := by
  have hfr' := freshN_spec hfr
  have hd' : dstOk N (some d) = true := hdst ▸ hd
  unfold Oper.wp
  rw [hr, Oper.upon_value, hdst]
  let ρ' := ρ.upd d (ρ.adr d) (some ⟨w.heap.size, 0, none⟩) n c
  have hag : ∀ r, r ≠ d → ρ.agree ρ' r := fun r h => ρ.upd_agree h
  have hden : C.den ρ' (.sl d) = .slice (some ⟨w.heap.size, 0, none⟩) n c := by simp [C.den, ρ', Nm.upd]
  refine hk _ ρ' _ _ h ?_ (hW.alloc hag hfr'.1 hfr'.2.2 ⟨hpl, by simp [ρ', Nm.upd, hn], .inl ⟨fun b => ?_, ?_⟩⟩)
  · have := (hA.congr (ρ' := ρ') fun p hp r hr => hag r fun e => hfr'.2.1 p hp (e ▸ hr)).put hd' (.v (.c (.sl d)))
    simpa only [E.den, V.den, hden, putE] using this
  · rw [hden]; simp [Value.ownBlock, eq_comm]
  · rw [hden, hn]
    refine ⟨?_, .inr ⟨_, c, cs, rfl, Nat.zero_le _, heap_alloc_new w _, hnc, hcm, hcs, ?_⟩⟩
    · rw [← flat_congr (ρ := ρ) hpl, ← htk, List.length_take, Array.length_toList, hcs]
      exact Nat.min_eq_left (Nat.mul_le_mul_right _ hnc)
    · rw [htk, flat_congr hpl]
end

/-! ### append -/
theorem append_run {P : Program} {w : World} {t ty e : TypeId} {i : TypeInfo} {z : Value} {sz bytes : Nat} (ht : P.underlying t = some (.slice e)) (hi : P.info? e = some i) (hz : i.zero = some z)
    (hsize : i.size = sz) (hby : i.bytes = bytes) (hzs : z.cells.size = sz) (hsz : 0 < sz) (hb1 : 1 ≤ bytes)
    {v yv : Value} {n m : Nat} {xs news : List Value} {row : Option Nat}
    (hv : (w.ownsRow 0 e sz v n xs ∧ row = v.ownBlock) ∨ (xs = [] ∧ n = 0 ∧ row = none ∧ ∃ b, v = .slice b 0 0))
    (hy : (yv = .slice none 0 0 ∧ m = 0 ∧ news = []) ∨ ∃ ad c, yv = .slice (some ad) m c ∧ ∀ j u, news[j]? = some u → w.cell? (ad.add j) = some u)
    (hl : news.length = m * sz) (h1 : ∀ u ∈ news, u.oneCell' = true) (hbytes : (n + m) * bytes ≤ 140737488355328) :
    ∃ v' w', (Builtin.append_ #[t, t] ty #[v, yv]).run P w = .ok v' w' ∧ w.grownBy w' row ∧
      ((w'.ownsRow 0 e sz v' (n + m) (xs ++ news) ∧ (v'.ownBlock = row ∨ v'.ownBlock = some w.heap.size)) ∨ (n + m = 0 ∧ xs = [] ∧ news = [] ∧ ∃ b, v' = .slice b 0 0)) := by
  have hnm : n + m ≤ 140737488355328 := Nat.le_trans (Nat.le_mul_of_pos_right _ hb1) hbytes
  have h63 : n + m ≤ maxLen := by simp only [maxLen]; omega
  have same : ∀ row, w.grownBy w row := fun row => ⟨rfl, rfl, rfl, Nat.le_refl _, fun _ _ _ => rfl⟩
  rcases hv with ⟨hown, rfl⟩ | ⟨rfl, rfl, rfl, b, rfl⟩
  · rcases hy with ⟨rfl, rfl, rfl⟩ | ⟨ad, c, rfl, hnews⟩
    · exact ⟨v, w, run_append_owned_none w 0 t ty e i sz ht hi v n xs hown, same _, .inl ⟨by simpa using hown, .inl rfl⟩⟩
    · obtain ⟨v', w', hr, h2, h3, _, h5⟩ := run_append_own_at (P := P) w 0 t ty e i z sz bytes ht hi hz hsize hby hzs hsz v n xs hown ad m c news hl hnews h1 h63 hbytes (Nat.zero_le _)
      exact ⟨v', w', hr, h3, .inl ⟨h2, h5⟩⟩
  · rcases hy with ⟨rfl, rfl, rfl⟩ | ⟨ad, c, rfl, hnews⟩
    · refine ⟨.slice b 0 0, w, ?_, same _, .inr ⟨rfl, rfl, rfl, b, rfl⟩⟩
      cases b <;> simp [Builtin.append_, run_underlying ht, sizeOf, typeInfo, hi, Builtin.lenOf, Builtin.firstCells, storeCells]
    · by_cases hm : m = 0
      · subst hm
        have hn : news = [] := List.eq_nil_of_length_eq_zero (by simpa using hl)
        subst hn
        refine ⟨.slice b 0 0, w, ?_, same _, .inr ⟨rfl, rfl, rfl, b, rfl⟩⟩
        cases b <;> simp [Builtin.append_, run_underlying ht, sizeOf, typeInfo, hi, Builtin.lenOf, Builtin.firstCells, storeCells, loadCells, loadCellsFrom]
      · cases b with
        | none =>
          obtain ⟨v', w', hr, h2, h3, _, h5⟩ := run_append_own_at (P := P) w 0 t ty e i z sz bytes ht hi hz hsize hby hzs hsz (.slice none 0 0) 0 [] (World.ownsRow_nil w 0 e sz) ad m c news hl hnews h1 h63 hbytes (Nat.zero_le _)
          exact ⟨v', w', hr, h3, .inl ⟨h2, h5⟩⟩
        | some b =>
          subst hsize hby
          have hr := run_append_grow (P := P) w t ty e i z ht hi hz b 0 0 [] (by simp) (by simp) ad m c news hl hnews (by omega) (by omega) (growslice_fits (by omega) (by simpa using hbytes))
          have hge := grownCap_ge w (0 + m) 0 e
          have hcm : grownCap w (0 + m) 0 e ≤ maxLen := grownCap_le_maxLen w (0 + m) 0 e h63
          refine ⟨_, _, hr, ⟨rfl, rfl, rfl, by simp, fun k hk _ => heap_alloc_old w.drew _ hk⟩, .inl ⟨⟨by simp [hl], .inr ⟨w.heap.size, _, _, rfl, Nat.zero_le _, heap_alloc_new w.drew _, hge, hcm, ?_, ?_⟩⟩, .inr rfl⟩⟩
          · simp only [Array.size_append, List.size_toArray, size_zeroCells, hzs, hl, List.length_nil, Nat.zero_add, ← Nat.add_mul] at hge ⊢
            congr 1
            omega
          · simp only [Array.toList_append, List.nil_append, Nat.zero_add, ← hl]
            exact List.take_left

/-- What a slice value shows: its elements, under a condition. -/
def srcOf (mem : Mem) (sz : Nat) : C → Option (Prop × List (List C))
  | .sl r => match rowRes mem r with
    | some (sz', es) => match Nat.beq sz sz' with
      | true => some (True, es)
      | false => none
    | none => none
  | .sub r lo sz'' len => match Nat.beq sz sz'', rowRes mem r with
    | true, some (sz', es) => match Nat.beq sz sz' with
      | true => some (lo + len ≤ es.length, (es.drop lo).take len)
      | false => none
    | _, _ => none
  | .val (.slice none 0 0) => some (True, [])
  | _ => none

/-- What is known of a row: its elements lie there. -/
theorem row_ok {ρ : Nm} {r sz : Nat} {es : List (List C)} {w : World} {F : Nat → Prop} {R : Res} (hR : R.holds ρ r w F) (h : isRow sz es R) :
    plainEs sz es ∧ ρ.rn r = es.length ∧ es.length ≤ ρ.rc r ∧ ((ρ.rb r = none ∧ es = [] ∧ ρ.rc r = 0) ∨ ∃ a, ρ.rb r = some a ∧ ∀ j u, (flat ρ es)[j]? = some u → w.cell? (a.add j) = some u) := by
  have addn : ∀ (g j : Nat), (⟨g, 0, none⟩ : Addr).add j = ⟨g, j, none⟩ := fun g j => (add_none g 0 j).trans (by simp)
  cases h with
  | sl T =>
    obtain ⟨h1, h2, ⟨hF, hlen, hown⟩ | ⟨_, rfl, h5⟩⟩ := hR
    · refine ⟨h1, h2, ?_⟩
      rcases hown with ⟨hv, h0⟩ | ⟨g, cap, cur, hv, _, hg, hnc, _, hcs, htk⟩
      · simp only [C.den, Value.slice.injEq] at hv
        exact ⟨by omega, .inl ⟨hv.1, List.eq_nil_of_length_eq_zero h0, hv.2.2⟩⟩
      · simp only [C.den, Value.slice.injEq] at hv
        refine ⟨by omega, .inr ⟨_, hv.1, fun j u hj => ?_⟩⟩
        rw [addn, cell_of_heap hg]
        rw [← htk, List.getElem?_take] at hj
        split at hj
        · rw [← Array.getElem?_toList]; exact hj
        · cases hj
    · refine ⟨h1, h2, Nat.zero_le _, ?_⟩
      cases hb : ρ.rb r with
      | none => exact .inl ⟨rfl, rfl, h5⟩
      | some a => exact .inr ⟨a, rfl, fun j u hj => by simp [flat] at hj⟩
  | ro o T =>
    obtain ⟨h1, h2, h3, ⟨_, rfl, h5⟩ | ⟨a, ha, _, _, h4⟩⟩ := hR
    · refine ⟨h1, h2, Nat.zero_le _, ?_⟩
      cases hb : ρ.rb r with
      | none => exact .inl ⟨rfl, rfl, h5 hb⟩
      | some a => exact .inr ⟨a, rfl, fun j u hj => by simp [flat] at hj⟩
    · exact ⟨h1, h2, by omega, .inr ⟨a, ha, h4⟩⟩
  | fx T =>
    obtain ⟨h1, h2, h3, g, cur, fr, ha, _, hg, _, _, htk⟩ := hR
    refine ⟨h1, h2, h3, .inr ⟨_, ha, fun j u hj => ?_⟩⟩
    rw [addn, cell_of_heap hg]
    rw [← htk, List.getElem?_take] at hj
    split at hj
    · rw [← Array.getElem?_toList]; exact hj
    · cases hj

theorem flat_drop (ρ : Nm) {sz : Nat} {es : List (List C)} (hp : plainEs sz es) (lo j : Nat) : (flat ρ (es.drop lo))[j]? = (flat ρ es)[lo * sz + j]? ∨ es.length < lo := by
  by_cases hlo : lo ≤ es.length
  · left
    have hl : (es.take lo).flatten.length = lo * sz := by
      rw [List.length_flatten]
      have : (es.take lo).map List.length = List.replicate lo sz := by
        apply List.ext_getElem
        · simp; omega
        · intro i h1 h2
          simp only [List.getElem_map, List.getElem_replicate]
          exact (hp _ (List.mem_of_mem_take (List.getElem_mem _))).1
      rw [this]; simp
    have : flat ρ es = ((es.take lo).flatten.map (C.den ρ)) ++ flat ρ (es.drop lo) := by
      unfold flat
      rw [← List.map_append, ← List.flatten_append, List.take_append_drop]
    have hl' : ((es.take lo).flatten.map (C.den ρ)).length = lo * sz := by rw [List.length_map, hl]
    rw [this, List.getElem?_append_right (by rw [hl']; omega), hl']
    congr 1
    omega
  · exact .inr (by omega)

theorem flat_take (ρ : Nm) {es : List (List C)} (n j : Nat) {u : Value} (h : (flat ρ (es.take n))[j]? = some u) : (flat ρ es)[j]? = some u := by
  have : flat ρ es = flat ρ (es.take n) ++ flat ρ (es.drop n) := by
    unfold flat
    rw [← List.map_append, ← List.flatten_append, List.take_append_drop]
  have hl := (List.getElem?_eq_some_iff.1 h).1
  rw [this, List.getElem?_append_left hl, h]

theorem plain_drop {sz : Nat} {es : List (List C)} (hp : plainEs sz es) (n : Nat) : plainEs sz (es.drop n) := fun x hx => hp x (List.mem_of_mem_drop hx)
theorem plain_take {sz : Nat} {es : List (List C)} (hp : plainEs sz es) (n : Nat) : plainEs sz (es.take n) := fun x hx => hp x (List.mem_of_mem_take hx)
theorem plain_append {sz : Nat} {es es' : List (List C)} (hp : plainEs sz es) (hp' : plainEs sz es') : plainEs sz (es ++ es') := fun x hx => by
  rcases List.mem_append.1 hx with h | h
  · exact hp x h
  · exact hp' x h

theorem sub_den {ρ : Nm} {r lo sz len : Nat} {es : List (List C)} {w : World} {F : Nat → Prop} {R : Res} (hR : R.holds ρ r w F) (h : isRow sz es R) (hp : lo + len ≤ es.length) :
    plainEs sz ((es.drop lo).take len) ∧ ((C.den ρ (.sub r lo sz len) = .slice none 0 0 ∧ (es.drop lo).take len = []) ∨
      ∃ a c, C.den ρ (.sub r lo sz len) = .slice (some a) ((es.drop lo).take len).length c ∧ ∀ j u, (flat ρ ((es.drop lo).take len))[j]? = some u → w.cell? (a.add j) = some u) := by
  obtain ⟨h1, h2, h3, h4⟩ := row_ok hR h
  refine ⟨plain_take (plain_drop h1 _) _, ?_⟩
  have hlen : ((es.drop lo).take len).length = len := by simp; omega
  rcases h4 with ⟨hb, rfl, hc⟩ | ⟨a, hb, hcell⟩
  · left
    simp at hp
    obtain ⟨rfl, rfl⟩ := hp
    simp [C.den, hb, hc]
  · right
    by_cases hc : ρ.rc r = lo
    · have hl0 : len = 0 := by omega
      subst hl0
      exact ⟨a, ρ.rc r - lo, by simp [C.den, hb, hc], fun j u hj => by simp [flat] at hj⟩
    · refine ⟨a.add (lo * sz), ρ.rc r - lo, by simp [C.den, hb, hc, hlen], fun j u hj => ?_⟩
      have := flat_take ρ len j hj
      rcases flat_drop ρ h1 lo j with hd | hd
      · rw [hd] at this
        rw [Addr.add_add']
        exact hcell _ _ this
      · omega

theorem src_ok {ρ : Nm} {mem : Mem} {w : World} {F : Nat → Prop} (hM : MemSat ρ mem w F) {sz : Nat} {c : C} {p : Prop} {es : List (List C)} (h : srcOf mem sz c = some (p, es)) (hp : p) :
    plainEs sz es ∧ ((c.den ρ = .slice none 0 0 ∧ es = []) ∨ ∃ a k, c.den ρ = .slice (some a) es.length k ∧ ∀ j u, (flat ρ es)[j]? = some u → w.cell? (a.add j) = some u) := by
  have whole : ∀ {r : Nat} {R : Res} {F' : Nat → Prop}, R.holds ρ r w F' → isRow sz es R → c = .sl r →
      plainEs sz es ∧ ((c.den ρ = .slice none 0 0 ∧ es = []) ∨ ∃ a k, c.den ρ = .slice (some a) es.length k ∧ ∀ j u, (flat ρ es)[j]? = some u → w.cell? (a.add j) = some u) := by
    intro r R F' hR hh hc
    subst hc
    obtain ⟨h1, h2, h3, h4⟩ := row_ok hR hh
    refine ⟨h1, ?_⟩
    rcases h4 with ⟨hb, rfl, hc⟩ | ⟨a, hb, hcell⟩
    · left
      have h2' : ρ.rn r = 0 := h2
      simp [C.den, hb, hc, h2']
    · right
      exact ⟨a, ρ.rc r, by simp [C.den, hb, h2], hcell⟩
  unfold srcOf at h
  split at h
  · rename_i r
    split at h
    · rename_i sz' es' hl
      split at h
      · rename_i hb
        simp only [Option.some.injEq, Prod.mk.injEq] at h
        obtain ⟨rfl, rfl⟩ := h
        have := Nat.eq_of_beq_eq_true hb
        subst this
        obtain ⟨R, hl', hir⟩ := rowRes_is hl
        obtain ⟨F', hR, _⟩ := hM.get hl'
        exact whole hR hir rfl
      · cases h
    · cases h
  · rename_i r lo sz'' len
    split at h
    · rename_i sz' es' hb0 hl
      split at h
      · rename_i hb
        simp only [Option.some.injEq, Prod.mk.injEq] at h
        obtain ⟨rfl, rfl⟩ := h
        have := Nat.eq_of_beq_eq_true hb
        subst this
        have := Nat.eq_of_beq_eq_true hb0
        subst this
        obtain ⟨R, hl', hir⟩ := rowRes_is hl
        obtain ⟨F', hR, _⟩ := hM.get hl'
        exact sub_den hR hir hp
      · cases h
    · cases h
  · simp only [Option.some.injEq, Prod.mk.injEq] at h
    obtain ⟨rfl, rfl⟩ := h
    exact ⟨fun x hx => (List.not_mem_nil hx).elim, Or.inl ⟨rfl, rfl⟩⟩
  · cases h

/-! ### The operations -/
structure RestVC (P : Program) (N : Nat) (D0 : List Nat) (o : Oper) (env : Env) (mem : Mem) (k : St → Prop) : Prop where
  make ::
  out : OpVC P N D0 o env mem k

def tyElemZ (tt : Ty) (T : TypeId) : Option (TypeId × Nat × Nat × List C) := match look tt T with
  | some ⟨.slice e, _, _, _, _⟩ => match look tt e with
    | some ⟨_, sz, by_, _, z⟩ => match Nat.ble 1 sz, Nat.ble 1 by_, Nat.beq z.length sz, cellsPlain (z.map ofCell) with
      | true, true, true, true => some (e, sz, by_, z.map ofCell)
      | _, _, _, _ => none
    | none => none
  | _ => none

theorem tyElemZ_ok {P : Program} {tt : Ty} (ht : TyOk P tt) {T e : TypeId} {sz by_ : Nat} {zc : List C} (h : tyElemZ tt T = some (e, sz, by_, zc)) :
    P.underlying T = some (.slice e) ∧ ∃ i z, P.info? e = some i ∧ i.zero = some z ∧ i.size = sz ∧ i.bytes = by_ ∧ z.cells.size = sz ∧ 0 < sz ∧ 1 ≤ by_ ∧ zc.length = sz ∧ cellsPlain zc = true ∧ ∀ ρ : Nm, (zc.map (C.den ρ)).toArray = z.cells := by
  unfold tyElemZ at h
  split at h
  · rename_i hl
    split at h
    · rename_i hl2
      split at h
      · rename_i c1 c2 c3 c4
        simp only [Option.some.injEq, Prod.mk.injEq] at h
        obtain ⟨rfl, rfl, rfl, rfl⟩ := h
        obtain ⟨i, h1, h2, h3, z, h4, h5⟩ := (ht.get hl2).info
        simp only at h2 h3 h5
        have hs := Nat.eq_of_beq_eq_true c3
        refine ⟨(ht.get hl).kind, i, z, h1, h4, h2, h3, by rw [h5]; simpa using hs, Nat.le_of_ble_eq_true c1, Nat.le_of_ble_eq_true c2, by simpa using hs, c4, fun ρ => by rw [map_ofCell, h5]⟩
      · cases h
    · cases h
  · cases h

def bitsI (op : BinOp) (k : IntKind) (x y : Int) : Option Int := match op with
  | .and => some ((BitVec.ofInt k.bits x &&& BitVec.ofInt k.bits y).toNat : Int)
  | .or => some ((BitVec.ofInt k.bits x ||| BitVec.ofInt k.bits y).toNat : Int)
  | .xor => some ((BitVec.ofInt k.bits x ^^^ BitVec.ofInt k.bits y).toNat : Int)
  | _ => none

/-- A written literal. -/
def fEs {α : Sort _} : List (List C) → (List (List C) → α) → α
  | [], k => k []
  | x :: l, k => fCs x fun x' => fEs l fun l' => k (x' :: l')
theorem fEs_eq {α : Sort _} : ∀ (l : List (List C)) (k : List (List C) → α), fEs l k = k l
  | [], _ => rfl
  | c :: l, k => by simp only [fEs, fCs_eq, fEs_eq l]

/-- The row that an append goes onto, and what else there is. -/
def ontoOf (mem : Mem) (e sz : Nat) : C → Option (List (List C) × Mem)
  | .sl r => match takeN mem r with
    | some (.sl T sz' es, rest) => match Nat.beq T e, Nat.beq sz' sz with
      | true, true => some (es, rest)
      | _, _ => none
    | _ => none
  | .val (.slice none 0 0) => some ([], mem)
  | _ => none

/-- Whether a row is nil is open; a nil one has no elements. -/
structure NilVC (p : Prop) (K : Bool → Prop) : Prop where
  make ::
  out : (p → K true) ∧ K false
theorem NilVC.mk {p : Prop} {K : Bool → Prop} (h1 : p → K true) (h2 : K false) : NilVC p K := ⟨⟨h1, h2⟩⟩

def slEs (mem : Mem) (r : Nat) : Option (List (List C)) := match rowRes mem r with
  | some (_, es) => some es
  | none => none

def exN (P : Program) (tt : Ty) (N : Nat) (D0 : List Nat) (o : Oper) (env : Env) (mem : Mem) (k : St → Prop) : Prop := match o.op with
  | .build T parts => match buildC tt env T parts.toList with
    | some cs => fCs cs fun cs' => k ⟨putE env o.dst (.v (.agg cs')), mem⟩
    | none => RestVC P N D0 o env mem k
  | .buildSlice T len parts => match o.dst, tyElemZ tt T, evParts env parts.toList with
    | some d, some (e, sz, _, zc), some vs => match fillC (fun i => some (i * sz, sz)) (zerosC zc len) vs, freshN D0 env mem d, Nat.ble (len * sz) 16777216 with
      | some cs, true, true => match cellsPlain cs with
        | true => fEs (chunk sz len cs) fun es => k ⟨(d, .v (.c (.sl d))) :: env, (d, .sl e sz es) :: mem⟩
        | false => RestVC P N D0 o env mem k
      | _, _, _ => RestVC P N D0 o env mem k
    | _, _, _ => RestVC P N D0 o env mem k
  | .makeSlice T l c => match o.dst, tyElemZ tt T, ev env l, ev env c with
    | some d, some (e, sz, by_, zc), some (.v (.c (.int _ n))), some (.v (.c (.int _ m))) => match freshN D0 env mem d with
      | true => SideVC (0 ≤ n ∧ n ≤ m ∧ (by_ : Int) * m ≤ 281474976710656) (k ⟨(d, .v (.c (.sl d))) :: env, (d, .sl e sz (List.replicate n.toNat zc)) :: mem⟩)
      | false => RestVC P N D0 o env mem k
    | _, _, _, _ => RestVC P N D0 o env mem k
  | .call ⟨.builtin .append, args, tys⟩ => match o.dst, args.toList, tys.toList with
    | some d, [s, y], [T1, T2] => match tyElemZ tt T1, Nat.beq T1 T2, ev env s, ev env y with
      | some (e, sz, by_, _), true, some (.v (.c cs)), some (.v (.c cy)) => match ontoOf mem e sz cs, srcOf mem sz cy with
        | some (es, rest), some (p, es2) => match freshN D0 env rest d with
          | true => SideVC ((es.length + es2.length) * by_ ≤ 140737488355328 ∧ p) (k ⟨(d, .v (.c (.sl d))) :: env, (d, .sl e sz (es ++ es2)) :: rest⟩)
          | false => RestVC P N D0 o env mem k
        | _, _ => RestVC P N D0 o env mem k
      | _, _, _, _ => RestVC P N D0 o env mem k
    | _, _, _ => RestVC P N D0 o env mem k
  | .binOp op T x y _ => match ev env x, ev env y with
    | some (.v (.c (.int kd a))), some (.v (.c (.int k' b))) => match decide (kd = k'), bitsI op kd a b with
      | true, some n => k ⟨putE env o.dst (.v (.c (.int kd (kd.wrap n)))), mem⟩
      | _, _ => RestVC P N D0 o env mem k
    | some (.v (.c (.sl r))), some (.v (.c (.val (.slice none 0 0)))) => match op, tySlice tt T, slEs mem r with
      | .eql, true, some es => NilVC (es = []) fun b => k ⟨putE env o.dst (.v (.c (.bool b))), mem⟩
      | .neq, true, some es => NilVC (es = []) fun b => k ⟨putE env o.dst (.v (.c (.bool (!b)))), mem⟩
      | _, _, _ => RestVC P N D0 o env mem k
    | _, _ => RestVC P N D0 o env mem k
  | .slice T x lo (some hi) (some mx) => match o.dst, ev env x, tyElem tt T, evN env 0 lo, evN env 0 (some hi), evN env 0 (some mx) with
    | some d, some (.v (.c (.sl r))), some (e, sz), some a, some b, some c => match freshN D0 env mem d, slEs mem r with
      | true, some _ => SideVC (a = 0 ∧ b = 0 ∧ c = 0) (k ⟨(d, .v (.c (.sl d))) :: env, (d, .sl e sz []) :: mem⟩)
      | _, _ => RestVC P N D0 o env mem k
    | _, _, _, _, _, _ => RestVC P N D0 o env mem k
  | .slice T x lo hi none => match ev env x, tyElem tt T with
    | some (.v (.c c)), some (_, sz) => match rowOf mem c with
      | some (r, len, sz') => match Nat.beq sz sz', evN env 0 lo, evN env (len : Int) hi with
        | true, some a, some b => SideVC (0 ≤ a ∧ a ≤ b ∧ b ≤ len) (k ⟨putE env o.dst (.v (.c (.sub r a.toNat sz (b.toNat - a.toNat)))), mem⟩)
        | _, _, _ => RestVC P N D0 o env mem k
      | none => RestVC P N D0 o env mem k
    | _, _ => RestVC P N D0 o env mem k
  | .indexAddr T x i => match ev env x, ev env i, tyElem tt T with
    | some (.v (.c (.sub r lo sz len))), some (.v (.c (.int _ n))), some (_, sz'') => match rowOf mem (.sl r) with
      | some (_, len', sz') => match Nat.beq sz sz', Nat.beq sz sz'' with
        | true, true => SideVC (0 ≤ n ∧ n < len ∧ lo + len ≤ len') (k ⟨putE env o.dst (.v (.c (.el r (lo + n.toNat) sz 0))), mem⟩)
        | _, _ => RestVC P N D0 o env mem k
      | none => RestVC P N D0 o env mem k
    | _, _, _ => RestVC P N D0 o env mem k
  | _ => RestVC P N D0 o env mem k

theorem rowOf_res {ρ : Nm} {mem : Mem} {w : World} {F : Nat → Prop} (hM : MemSat ρ mem w F) {c : C} {r n sz : Nat} (h : rowOf mem c = some (r, n, sz)) :
    c = .sl r ∧ ∃ (es : List (List C)) (R : Res) (F' : Nat → Prop), es.length = n ∧ R.holds ρ r w F' ∧ isRow sz es R := by
  cases c <;> try simp only [rowOf, reduceCtorEq] at h
  split at h
  · rename_i hl
    simp only [Option.some.injEq, Prod.mk.injEq] at h
    obtain ⟨rfl, rfl, rfl⟩ := h
    obtain ⟨R, hl', hir⟩ := rowRes_is hl
    obtain ⟨F', hR, _⟩ := hM.get hl'
    exact ⟨rfl, _, _, F', rfl, hR, hir⟩
  · cases h

theorem flat_replicate_zeros (ρ : Nm) (zc : List C) (n c : Nat) (h : n ≤ c) : ((zerosC zc c).map (C.den ρ)).take (n * zc.length) = flat ρ (List.replicate n zc) := by
  have h1 : zerosC zc n = (List.replicate n zc).flatten := by
    clear h
    induction n with
    | zero => rfl
    | succ n ih => simp [zerosC, ih, List.replicate_succ]
  obtain ⟨d, rfl⟩ := Nat.exists_eq_add_of_le h
  have h2 : zerosC zc (n + d) = zerosC zc n ++ zerosC zc d := by
    clear h h1
    induction n with
    | zero => simp [zerosC]
    | succ n ih => rw [show n + 1 + d = (n + d) + 1 by omega]; simp [zerosC, ih]
  unfold flat
  rw [← h1, h2, List.map_append, List.take_left' (by simp [length_zerosC])]

section
variable {P : Program} {tt : Ty} {N : Nat} {o : Oper} {k : St → Prop} {D0 : List Nat} {env : Env} {mem : Mem}

theorem slEs_nil {ρ : Nm} {mem : Mem} {w : World} {F : Nat → Prop} (hM : MemSat ρ mem w F) {r : Nat} {es : List (List C)} (h : slEs mem r = some es) (hn : ρ.rb r = none) : es = [] := by
  unfold slEs at h
  split at h
  · rename_i hl
    obtain rfl := Option.some.inj h
    obtain ⟨R, hl', hir⟩ := rowRes_is hl
    obtain ⟨F', hR, _⟩ := hM.get hl'
    rcases (row_ok hR hir).2.2.2 with ⟨_, he, _⟩ | ⟨a, ha, _⟩
    · exact he
    · rw [hn] at ha; cases ha
  · cases h

theorem SatW.addEmpty {x : Cx} {ρ : Nm} {mem : Mem} {w : World} (hW : SatW x ρ mem w) {d : Nat} (b : Option Addr) (T : TypeId) (sz : Nat) (hd : d ∉ x.D0) (hm : ∀ p ∈ mem, p.1 ≠ d ∧ d ∉ p.2.names) :
    SatW x (ρ.upd d (ρ.adr d) b 0 0) ((d, .sl T sz []) :: mem) w := by
  have hag : ∀ r, r ≠ d → ρ.agree (ρ.upd d (ρ.adr d) b 0 0) r := fun r h => ρ.upd_agree h
  obtain ⟨F, hF, h0⟩ := hW.mem
  refine ⟨⟨F, ⟨fun _ => False, F, fun b => by simp, fun b h => h.elim, ⟨fun x hx => (List.not_mem_nil hx).elim, by simp [Nm.upd], .inr ⟨fun b h => h, rfl, by simp [Nm.upd]⟩⟩, ?_⟩, h0⟩, hW.os, hW.tape, hW.output, hW.size, hW.keep, fun r hr => (hW.agr r hr).trans (hag r fun e => hd (e ▸ hr))⟩
  exact hF.congr fun p hp => ⟨hag _ (hm p hp).1, fun r hr => hag r fun e => (hm p hp).2 (e ▸ hr)⟩

theorem equal_nil {P : Program} {T e : TypeId} (hu : P.underlying T = some (.slice e)) (b : Option Addr) (n c : Nat) (w : World) :
    (Op.equal T (.slice b n c) (.slice none 0 0)).run P w = .ok b.isNone w := by
  unfold Op.equal
  rw [show Op.maxDepth = 9999 + 1 from rfl]
  generalize 9999 = m
  cases b <;> simp [Op.equalIn, run_underlying hu]

set_option maxHeartbeats 1000000 in
theorem OpVC.more (ht : TyOk P tt) (h : exN P tt N D0 o env mem k) : OpVC P N D0 o env mem k := by
  constructor
  intro x ρ a w next Q hx hd hA hW hk
  subst hx
  have rest : RestVC P N x.D0 o env mem k → o.wp P a w next Q := fun h => h.out.out x ρ a w next Q rfl hd hA hW hk
  unfold exN at h
  obtain ⟨F, hF, hF0⟩ := hW.mem
  split at h
  · rename_i T parts ho
    split at h
    · rename_i cs hcs
      rw [fCs_eq] at h
      refine value_wp (st := ⟨env, mem⟩) (e := .v (.agg cs)) (kk := k) hd hA hW ?_ h hk
      have := buildC_run (w := w) ht hA hcs
      simp [execOp, ho, this, E.den, V.den]
    · exact rest h
  · rename_i T len parts ho
    split at h
    · rename_i d e sz by_ zc vs hdst hty hvs
      split at h
      · rename_i cs hfill hfr hle
        split at h
        · rename_i hpl
          rw [fEs_eq] at h
          obtain ⟨hu, i, z, hi, hz, hsz, hby, hzs, hpos, hb1, hzl, hzp, hzd⟩ := tyElemZ_ok ht hty
          have hle' := Nat.le_of_ble_eq_true hle
          have hf := fillC_den (ρ := ρ) hfill
          have hlen : cs.length = len * sz := by
            have hsize : ∀ {parts : List (Nat × V)} {cs cs' : List C} {pl}, fillC pl cs parts = some cs' → cs'.length = cs.length := by
              intro parts
              induction parts with
              | nil => intro cs cs' pl h; simp only [fillC, Option.some.injEq] at h; rw [h]
              | cons p r ih =>
                intro cs cs' pl h
                obtain ⟨i, v⟩ := p
                simp only [fillC] at h
                split at h
                · split at h
                  · rename_i c1 c2 c3
                    have hle := Nat.le_of_ble_eq_true c3
                    rw [ih h]
                    simp [setAt]
                    omega
                  · cases h
                · cases h
            rw [hsize hfill, length_zerosC, hzl]
          have hparts : (parts.map fun (x : Nat × Operand) => (x.1, a.eval x.2)).toList = vs.map fun x => (x.1, x.2.den ρ) := by
            rw [Array.toList_map]; exact evParts_den hA hvs
          have hr : (execOp a.eval o).run P w = .ok (.value (.slice (some ⟨w.heap.size, 0, none⟩) len len)) (w.alloc (.cells (cs.map (C.den ρ)).toArray e)) := by
            have hzeros := zeros_den ρ zc (by omega) len
            rw [hzd ρ, hzl] at hzeros
            have : (Instr.buildSlice T len (parts.map fun (i, x) => (i, a.eval x))).run P w = .ok (.slice (some ⟨w.heap.size, 0, none⟩) len len) (w.alloc (.cells (cs.map (C.den ρ)).toArray e)) := by
              generalize (parts.map fun (x : Nat × Operand) => (x.1, a.eval x.2)) = q at hparts ⊢
              by_cases h0 : len = 0
              · subst h0
                simp only [zerosC, List.map_nil] at hf
                simp [Instr.buildSlice, run_underlying hu, sizeOf, typeInfo, hi, hsz, newRow, hparts, hf, Array.range_zero']
              · refine run_buildSlice w T e len _ _ i z hu hi hz (by rw [hsz]; omega) (by rw [hsz]; exact Nat.mul_ne_zero h0 (by omega)) ?_
                rw [hsz, hzeros, hparts]
                exact hf
            simp [execOp, ho, this]
          have hmax : len ≤ maxLen := by
            have : len ≤ len * sz := Nat.le_mul_of_pos_right _ hpos
            simp only [maxLen]; omega
          exact newsl_wp (st := ⟨env, mem⟩) (k := k) hd hA hW hdst hfr hr (chunk_plain hlen hpl) (length_chunk _ _ _) (Nat.le_refl _) hmax (by simpa using hlen)
            (by simp only [flat, chunk_flatten sz len cs hlen]; rw [List.take_of_length_le (by simp [hlen])]) h hk
        · exact rest h
      · exact rest h
    · exact rest h
  · rename_i T l c ho
    split at h
    · rename_i d e sz by_ zc k1 n k2 m hdst hty hl hc
      split at h
      · rename_i hfr
        have hh := h.out
        clear h
        obtain ⟨⟨p1, p2, p3⟩, h⟩ := hh
        obtain ⟨hu, i, z, hi, hz, hsz, hby, hzs, hpos, hb1, hzl, hzp, hzd⟩ := tyElemZ_ok ht hty
        subst hby
        have p4 : m ≤ 281474976710656 := by
          have : (1 : Int) * m ≤ (i.bytes : Int) * m := Int.mul_le_mul_of_nonneg_right (by omega) (by omega)
          omega
        have hr := run_make (P := P) w T e i z hu hi hz k1 k2 n m p1 p2 p3 (by omega)
        rw [hsz] at hr
        have hm : madeCells z.cells (m.toNat * sz) = ((zerosC zc m.toNat).map (C.den ρ)).toArray := by
          have := zeros_den ρ zc (by omega) m.toNat
          rw [hzd ρ, hzl] at this
          exact this
        rw [hm] at hr
        refine newsl_wp (st := ⟨env, mem⟩) (k := k) (n := n.toNat) (c := m.toNat) (cs := ((zerosC zc m.toNat).map (C.den ρ)).toArray) (T := e) (sz := sz) (es := List.replicate n.toNat zc) hd hA hW hdst hfr (by simp [execOp, ho, ev_den hA hl, ev_den hA hc, E.den, V.den, C.den, hr]) (fun y hy => ?_) (by simp) (by omega) (by simp only [maxLen]; omega) (by simp [length_zerosC, hzl]) ?_ h hk
        · rw [List.eq_of_mem_replicate hy]
          refine ⟨hzl, fun c hc => ?_⟩
          have := List.all_eq_true.1 hzp c hc
          simp only [Bool.and_eq_true, List.isEmpty_iff] at this
          exact ⟨this.2, this.1⟩
        · have := flat_replicate_zeros ρ zc n.toNat m.toNat (by omega)
          rw [hzl] at this
          simpa using this
      · exact rest h
    · exact rest h
  · rename_i args tys ho
    split at h
    · rename_i d s y T1 T2 hdst hargs htys
      split at h
      · rename_i e sz by_ zc cs cy hty hTT hs hy
        split at h
        · rename_i es rst p es2 honto hsrc
          split at h
          · rename_i hfr
            have hh := h.out
            clear h
            obtain ⟨⟨p1, p2⟩, h⟩ := hh
            have hTT' := Nat.eq_of_beq_eq_true hTT
            subst hTT'
            obtain ⟨hu, i, z, hi, hz, hsz, hby, hzs, hpos, hb1, hzl, hzp, hzd⟩ := tyElemZ_ok ht hty
            obtain ⟨hpl2, hsrc2⟩ := src_ok hF hsrc p2
            have hargs' : args = #[s, y] := Array.toList_inj.1 hargs
            have htys' : tys = #[T1, T1] := Array.toList_inj.1 htys
            -- what is appended onto
            obtain ⟨row, F1, F2, hplx, hv, hrow, hFF, hdis, hrest, hmn⟩ : ∃ (row : Option Nat) (F1 F2 : Nat → Prop), plainEs sz es ∧
                ((w.ownsRow 0 e sz (cs.den ρ) es.length (flat ρ es) ∧ row = (cs.den ρ).ownBlock) ∨ (flat ρ es = [] ∧ es.length = 0 ∧ row = none ∧ ∃ b, cs.den ρ = .slice b 0 0)) ∧
                (∀ b, F1 b ↔ row = some b) ∧ (∀ b, F b ↔ F1 b ∨ F2 b) ∧ (∀ b, F1 b → F2 b → False) ∧ MemSat ρ rst w F2 ∧ (∀ q ∈ rst, q ∈ mem) := by
              cases cs <;> try simp only [ontoOf, reduceCtorEq] at honto
              case sl r =>
                split at honto
                · rename_i T' sz' es' rest' htk
                  split at honto
                  · rename_i b1 b2
                    simp only [Option.some.injEq, Prod.mk.injEq] at honto
                    obtain ⟨rfl, rfl⟩ := honto
                    have e1 := Nat.eq_of_beq_eq_true b1
                    have e2 := Nat.eq_of_beq_eq_true b2
                    subst e1 e2
                    have hp := takeN_perm htk
                    obtain ⟨F1, F2, g1, g2, g3, g4⟩ := hF.perm hp
                    obtain ⟨q1, q2, ⟨q3, q4⟩ | ⟨q3, rfl, q5⟩⟩ := g3
                    · exact ⟨_, F1, F2, q1, .inl ⟨q4, rfl⟩, q3, g1, g2, g4, fun q hq => hp.mem_iff.2 (List.mem_cons_of_mem _ hq)⟩
                    · refine ⟨none, F1, F2, q1, .inr ⟨rfl, rfl, rfl, ρ.rb r, ?_⟩, fun b => by simp [q3 b], g1, g2, g4, fun q hq => hp.mem_iff.2 (List.mem_cons_of_mem _ hq)⟩
                      have q2' : ρ.rn r = 0 := q2
                      simp [C.den, q2', q5]
                  · cases honto
                · cases honto
              case val v =>
                split at honto
                · rename_i r hc; cases hc
                · rename_i hc
                  simp only [Option.some.injEq, Prod.mk.injEq] at honto
                  obtain ⟨rfl, rfl⟩ := honto
                  simp only [C.val.injEq] at hc
                  subst hc
                  exact ⟨none, fun _ => False, F, (fun x hx => (List.not_mem_nil hx).elim), .inr ⟨rfl, rfl, rfl, none, rfl⟩, fun b => by simp, fun b => by simp, fun b h => h.elim, hF, fun q hq => hq⟩
                · cases honto
            have hlx : ∀ l : List (List C), plainEs sz l → (flat ρ l).length = l.length * sz := fun l hl => by
              unfold flat
              rw [List.length_map, List.length_flatten]
              have : l.map List.length = List.replicate l.length sz := by
                apply List.ext_getElem
                · simp
                · intro i h1 h2
                  simp only [List.getElem_map, List.getElem_replicate]
                  exact (hl _ (List.getElem_mem _)).1
              rw [this]; simp
            have hnews1 : ∀ u ∈ flat ρ es2, u.oneCell' = true := fun u hu => by
              obtain ⟨c, hc, rfl⟩ := List.mem_map.1 hu
              obtain ⟨x, hx, hcx⟩ := List.mem_flatten.1 hc
              exact C.one_den ρ ((hpl2 x hx).2 c hcx).2
            obtain ⟨v', w', hr, hgrow, hres⟩ := append_run (P := P) (w := w) (t := T1) (ty := o.type) (v := cs.den ρ) (yv := cy.den ρ) (n := es.length) (m := es2.length) (xs := flat ρ es) (news := flat ρ es2) (row := row)
              hu hi hz hsz hby hzs hpos hb1 hv (by
                rcases hsrc2 with ⟨g1, rfl⟩ | ⟨ad, c, g1, g2⟩
                · exact .inl ⟨g1, rfl, rfl⟩
                · exact .inr ⟨ad, c, g1, g2⟩) (hlx es2 hpl2) hnews1 p1
            have hrun : (execOp a.eval o).run P w = .ok (.value v') w' := by
              simp only [execOp, ho, hargs', htys', resolve, invoke, builtin, Sem.run_bind, Sem.run_pure, Result.andThen_ok, List.map_toArray, List.map_cons, List.map_nil, ev_den hA hs, ev_den hA hy, E.den, V.den, hr]
            have hfr' := freshN_spec hfr
            have hd' : dstOk N (some d) = true := hdst ▸ hd
            -- the new value's form
            obtain ⟨nb, nc, hv', hFn⟩ : ∃ nb nc, v' = .slice nb (es.length + es2.length) nc ∧ ∃ Fn : Nat → Prop, (∀ b, Fn b → row = some b ∨ b = w.heap.size ∧ b < w'.heap.size) ∧
                (((∀ b, Fn b ↔ v'.ownBlock = some b) ∧ w'.ownsRow 0 e sz v' (es.length + es2.length) (flat ρ es ++ flat ρ es2)) ∨ ((∀ b, ¬ Fn b) ∧ es ++ es2 = [] ∧ nc = 0)) := by
              rcases hres with ⟨g1, g2⟩ | ⟨g1, g2, g3, b, rfl⟩
              · have hform : ∃ nb nc, v' = .slice nb (es.length + es2.length) nc := by
                  rcases g1.2 with ⟨g, g0⟩ | ⟨g, cap, cur, hg, _⟩
                  · exact ⟨none, 0, by rw [g, g0]⟩
                  · exact ⟨_, cap, hg⟩
                obtain ⟨nb, nc, hf⟩ := hform
                refine ⟨nb, nc, hf, fun b => v'.ownBlock = some b, fun b hb => ?_, .inl ⟨fun b => Iff.rfl, g1⟩⟩
                rcases g2 with g2 | g2
                · left; rw [← g2]; exact hb
                · right
                  have : w.heap.size = b := by rw [g2] at hb; exact Option.some.inj hb
                  exact ⟨this.symm, (g1.lt b hb).2⟩
              · refine ⟨b, 0, by rw [g1], fun _ => False, fun b h => h.elim, .inr ⟨fun b h => h, ?_, rfl⟩⟩
                have e1 : es = [] := List.eq_nil_of_length_eq_zero (by omega)
                have e2 : es2 = [] := List.eq_nil_of_length_eq_zero (by omega)
                simp [e1, e2]
            obtain ⟨Fn, hFn1, hFn2⟩ := hFn
            let ρ' := ρ.upd d (ρ.adr d) nb (es.length + es2.length) nc
            have hag : ∀ r, r ≠ d → ρ.agree ρ' r := fun r h => ρ.upd_agree h
            have hden : C.den ρ' (.sl d) = v' := by rw [hv']; simp [C.den, ρ', Nm.upd]
            unfold Oper.wp
            rw [hrun, Oper.upon_value, hdst]
            refine hk _ ρ' _ _ h ?_ ?_
            · have := (hA.congr (ρ' := ρ') fun p hp r hr => hag r fun e => hfr'.2.1 p hp (e ▸ hr)).put hd' (.v (.c (.sl d)))
              simpa only [E.den, V.den, hden, putE] using this
            · have hout : ∀ b, b < w.heap.size → ¬ F1 b → w'.heap[b]? = w.heap[b]? := fun b hb hn => hgrow.block b hb fun e => hn ((hrow b).2 (by rw [e]))
              refine ⟨⟨fun b => Fn b ∨ F2 b, MemSat.cons (F := F2) (fun b h1 h2 => ?_) ⟨plain_append hplx hpl2, by simp [ρ', Nm.upd], ?_⟩ ?_, fun b hb => ?_⟩, hgrow.os.trans hW.os, hgrow.tape.trans hW.tape, hgrow.output.trans hW.output, Nat.le_trans hW.size hgrow.size, fun b h1 h2 => ?_, fun r hr => ?_⟩
              · rcases hFn1 b h1 with h3 | ⟨h3, _⟩
                · exact hdis b ((hrow b).2 h3) h2
                · have := hrest.lt h2; omega
              · rw [hden]
                rcases hFn2 with ⟨g1, g2⟩ | ⟨g1, g2, g3⟩
                · refine .inl ⟨g1, ?_⟩
                  have e3 : flat ρ' (es ++ es2) = flat ρ es ++ flat ρ es2 := by
                    rw [← flat_congr (ρ := ρ) (plain_append hplx hpl2)]
                    simp [flat]
                  rw [e3, List.length_append]
                  exact g2
                · exact .inr ⟨g1, g2, by simp [ρ', Nm.upd, g3]⟩
              · refine MemSat.congr (ρ := ρ) (fun p hp => ⟨hag _ (hfr'.2.2 p hp).1, fun r hr => hag r fun e => (hfr'.2.2 p hp).2 (e ▸ hr)⟩) ?_
                exact hrest.frame fun b hb => hout b (hrest.lt hb) fun h1 => hdis b h1 hb
              · rcases hb with hb | hb
                · rcases hFn1 b hb with h3 | ⟨h3, _⟩
                  · exact hF0 b ((hFF b).2 (.inl ((hrow b).2 h3)))
                  · exact .inr (by have := hW.size; omega)
                · exact hF0 b ((hFF b).2 (.inr hb))
              · rw [hout b (by have := hW.size; omega) fun h3 => ?_]
                · exact hW.keep b h1 h2
                · rcases hF0 b ((hFF b).2 (.inl h3)) with h4 | h4
                  · exact h2 h4
                  · omega
              · exact (hW.agr r hr).trans (hag r fun e => hfr'.1 (e ▸ hr))
          · exact rest h
        · exact rest h
      · exact rest h
    · exact rest h
  · rename_i op T y z yt ho
    split at h
    · rename_i k1 n1 k2 n2 hy hz
      split at h
      · rename_i n hdk hb
        have hk' : k1 = k2 := of_decide_eq_true hdk
        subst hk'
        refine value_wp (st := ⟨env, mem⟩) (e := .v (.c (.int k1 (k1.wrap n)))) (kk := k) hd hA hW ?_ h hk
        simp only [execOp, ho, ev_den hA hy, ev_den hA hz, E.den, V.den, C.den]
        cases op <;> simp only [bitsI, Option.some.injEq, reduceCtorEq] at hb <;> subst hb <;> simp [eqGuard, binOp, Op.intBits]
      · exact rest h
    · rename_i r hy hz
      have hrun : ∀ (neg : Bool), (op = .eql ∧ neg = false ∨ op = .neq ∧ neg = true) → tySlice tt T = true → (execOp a.eval o).run P w = .ok (.value (.bool (if neg then !(ρ.rb r).isNone else (ρ.rb r).isNone))) w := fun neg hop hty => by
        obtain ⟨e, hu⟩ := tySlice_ok ht hty
        simp only [execOp, ho, ev_den hA hy, ev_den hA hz, E.den, V.den, C.den]
        rcases hop with ⟨rfl, rfl⟩ | ⟨rfl, rfl⟩ <;> simp [eqGuard, binOp, equal_nil hu]
      split at h
      · rename_i es hty hes
        have hr := hrun false (.inl ⟨rfl, rfl⟩) hty
        obtain ⟨h1, h2⟩ := h.out
        cases hrb : ρ.rb r with
        | none =>
          rw [hrb] at hr
          exact value_wp (st := ⟨env, mem⟩) (e := .v (.c (.bool true))) (kk := k) hd hA hW hr (h1 (slEs_nil hF hes hrb)) hk
        | some ad =>
          rw [hrb] at hr
          exact value_wp (st := ⟨env, mem⟩) (e := .v (.c (.bool false))) (kk := k) hd hA hW hr h2 hk
      · rename_i es hty hes
        have hr := hrun true (.inr ⟨rfl, rfl⟩) hty
        obtain ⟨h1, h2⟩ := h.out
        cases hrb : ρ.rb r with
        | none =>
          rw [hrb] at hr
          exact value_wp (st := ⟨env, mem⟩) (e := .v (.c (.bool false))) (kk := k) hd hA hW hr (h1 (slEs_nil hF hes hrb)) hk
        | some ad =>
          rw [hrb] at hr
          exact value_wp (st := ⟨env, mem⟩) (e := .v (.c (.bool true))) (kk := k) hd hA hW hr h2 hk
      · exact rest h
    · exact rest h
  · rename_i T y lo hi mx ho
    split at h
    · rename_i d r e sz av bv cv hdst hy hty ha hb hc
      split at h
      · rename_i es hfr hes
        have hh := h.out
        clear h
        obtain ⟨⟨rfl, rfl, rfl⟩, h⟩ := hh
        obtain ⟨hu, inf, hi1, hi2⟩ := tyElem_ok ht hty
        have hfr' := freshN_spec hfr
        have hd' : dstOk N (some d) = true := hdst ▸ hd
        obtain ⟨kb, hkb⟩ := evN_den hA hb
        obtain ⟨kc, hkc⟩ := evN_den hA hc
        have hlo : ∀ w, (Instr.sliceBounds true (ρ.rn r) (ρ.rc r) (lo.map a.eval) (some (.int kb 0)) (some (.int kc 0))).run P w = .ok (0, 0, 0) w := fun w => by
          cases lo with
          | none => simp [Instr.sliceBounds, Instr.sliceBound, asIntOf]
          | some z =>
            obtain ⟨ka, hka⟩ := evN_den hA ha
            simp [Instr.sliceBounds, Instr.sliceBound, asIntOf, hka]
        have hr : (execOp a.eval o).run P w = .ok (.value (.slice (ρ.rb r) 0 0)) w := by
          simp only [execOp, ho, ev_den hA hy, E.den, V.den, C.den, Option.map_some, hkb, hkc]
          simp [Instr.sliceAt, Instr.slice, run_underlying hu, hlo, sizeOf, typeInfo, hi1, hi2]
        unfold Oper.wp
        rw [hr, Oper.upon_value, hdst]
        let ρ' := ρ.upd d (ρ.adr d) (ρ.rb r) 0 0
        have hag : ∀ r, r ≠ d → ρ.agree ρ' r := fun r h => ρ.upd_agree h
        have hden : C.den ρ' (.sl d) = .slice (ρ.rb r) 0 0 := by simp [C.den, ρ', Nm.upd]
        refine hk _ ρ' _ _ h ?_ (hW.addEmpty _ _ _ hfr'.1 hfr'.2.2)
        have := (hA.congr (ρ' := ρ') fun p hp r hr => hag r fun e => hfr'.2.1 p hp (e ▸ hr)).put hd' (.v (.c (.sl d)))
        simpa only [E.den, V.den, hden, putE] using this
      · exact rest h
    · exact rest h
  · rename_i T y lo hi ho
    split at h
    · rename_i c e1 sz hy hty
      split at h
      · rename_i r len sz' hrow
        split at h
        · rename_i av bv hb ha hbv
          have hh := h.out
          clear h
          obtain ⟨⟨p1, p2, p3⟩, h⟩ := hh
          have hsz' := Nat.eq_of_beq_eq_true hb
          subst hsz'
          obtain ⟨rfl, es, R, F', hlen, hR, hform⟩ := rowOf_res hF hrow
          obtain ⟨g1, g2, g3, g4⟩ := row_ok hR hform
          obtain ⟨hu, inf, hi1, hi2⟩ := tyElem_ok ht hty
          have hrn : ρ.rn r = len := by rw [g2, hlen]
          have hrc : len ≤ ρ.rc r := by omega
          refine value_wp (st := ⟨env, mem⟩) (e := .v (.c (.sub r av.toNat sz (bv.toNat - av.toNat)))) (kk := k) hd hA hW ?_ h hk
          obtain ⟨an, rfl⟩ := Int.eq_ofNat_of_zero_le p1
          obtain ⟨bn, rfl⟩ := Int.eq_ofNat_of_zero_le (Int.le_trans p1 p2)
          have q1 : an ≤ bn := by omega
          have q2 : bn ≤ len := by omega
          simp only [execOp, ho, ev_den hA hy, E.den, V.den, C.den, Int.toNat_natCast, hrn]
          have fin : ∀ (lov hiv : Option Value), (∀ w, (Instr.sliceBounds true len (ρ.rc r) lov hiv none).run P w = .ok (an, bn, ρ.rc r) w) →
              (Instr.sliceAt T (.slice (ρ.rb r) len (ρ.rc r)) lov hiv none).run P w = .ok (.slice (if ρ.rc r = an then ρ.rb r else (ρ.rb r).map (·.add (an * sz))) (bn - an) (ρ.rc r - an)) w := by
            intro lov hiv hbnd
            simp [Instr.sliceAt, Instr.slice, run_underlying hu, hbnd, sizeOf, typeInfo, hi1, hi2]
          have hmax : ∀ n : Nat, n ≤ len → (n : Int) ≤ (ρ.rc r : Int) := fun n h => by omega
          cases lo with
          | none =>
            simp only [evN, Option.some.injEq] at ha
            have ha' : an = 0 := by omega
            subst ha'
            cases hi with
            | none =>
              simp only [evN, Option.some.injEq] at hbv
              have hb' : bn = len := by omega
              subst hb'
              rw [Option.map_none, Sem.run_bind, fin _ _ fun w => by simp [Instr.sliceBounds]]
              simp
            | some y =>
              obtain ⟨k2, hk2⟩ := evN_den hA hbv
              rw [Option.map_none, Option.map_some, Sem.run_bind, fin _ _ fun w => by simp [Instr.sliceBounds, hk2, Instr.sliceBound, asIntOf, hmax _ q2]; omega]
              simp
          | some x =>
            obtain ⟨k1, hk1⟩ := evN_den hA ha
            cases hi with
            | none =>
              simp only [evN, Option.some.injEq] at hbv
              have hb' : bn = len := by omega
              subst hb'
              rw [Option.map_some, Option.map_none, Sem.run_bind, fin _ _ fun w => by simp [Instr.sliceBounds, hk1, Instr.sliceBound, asIntOf, q1]]
              simp
            | some y =>
              obtain ⟨k2, hk2⟩ := evN_den hA hbv
              rw [Option.map_some, Option.map_some, Option.map_none, Sem.run_bind, fin _ _ fun w => by simp [Instr.sliceBounds, hk1, hk2, Instr.sliceBound, asIntOf, hmax _ q2, q1]; omega]
              simp
        · exact rest h
      · exact rest h
    · exact rest h
  · rename_i T y ix ho
    split at h
    · rename_i r lo sz len k1 n e1 sz'' hy hix hty
      split at h
      · rename_i r' len' sz' hrow
        split at h
        · rename_i hb hb2
          have hh := h.out
          clear h
          obtain ⟨⟨p1, p2, p3⟩, h⟩ := hh
          have e2 := Nat.eq_of_beq_eq_true hb
          have e3 := Nat.eq_of_beq_eq_true hb2
          subst e2 e3
          obtain ⟨hc, es, R, F', hlen, hR, hform⟩ := rowOf_res hF hrow
          simp only [C.sl.injEq] at hc
          subst hc
          obtain ⟨g1, g2, g3, g4⟩ := row_ok hR hform
          obtain ⟨hu, inf, hi1, hi2⟩ := tyElem_ok ht hty
          refine value_wp (st := ⟨env, mem⟩) (e := .v (.c (.el r (lo + n.toNat) sz 0))) (kk := k) hd hA hW ?_ h hk
          obtain ⟨nn, rfl⟩ := Int.eq_ofNat_of_zero_le p1
          have hrb : ∃ ad, ρ.rb r = some ad := by
            rcases g4 with ⟨_, rfl, _⟩ | ⟨ad, had, _⟩
            · simp at hlen; omega
            · exact ⟨ad, had⟩
          obtain ⟨ad, had⟩ := hrb
          have hne : ¬ ρ.rc r = lo := by omega
          have hn : nn < len := by omega
          simp only [execOp, ho, ev_den hA hy, ev_den hA hix, E.den, V.den, C.den, had, if_neg hne, Option.map_some, Option.getD_some, Int.toNat_natCast]
          simp [Instr.indexAt, asIntOf, run_underlying hu, hn, sizeOf, typeInfo, hi1, hi2]
          rw [Addr.add_add', Nat.add_mul]
        · exact rest h
      · exact rest h
    · exact rest h
  · exact rest h
end

end Go.Proofs.YtaidpalamhmghaaDoor.X
