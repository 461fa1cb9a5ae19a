/- Further operations of the walk: stores into rows that are not grown, bytes and texts, a text's signs one by one, maps, least and greatest. No condition. -/
import Derived.Test.YtaidpalamhmghaaDoorCall
import Derived.Laws.IdiomStrings
import Derived.Laws.RangeString
namespace Go.Proofs.YtaidpalamhmghaaDoor.X
open Go.RowKit
set_option linter.unusedVariables false
set_option linter.unusedSimpArgs false

/-! ### Stores into a row that is not grown -/
theorem run_storeCells_fr {P : Program} (g o : Nat) (t : TypeId) (fr : Nat × Nat) : ∀ (vs : List Value) (i : Nat) (cur : Array Value) (w : World), w.heap[g]? = some (.cells cur t fr) → o + i + vs.length ≤ cur.size → o + i + vs.length ≤ fr.1 →
    (∀ v ∈ vs, v.oneCell' = true) → (storeCells ⟨g, o, none⟩ vs i).run P w = .ok () (w.setRow g (cur.toList.take (o + i) ++ vs ++ cur.toList.drop (o + i + vs.length)).toArray)
  | [], i, cur, w, hg, _, _, _ => by
    simp only [storeCells, List.append_nil, List.length_nil, Nat.add_zero, List.take_append_drop, Array.toArray_toList]
    rw [setRow_self w g cur t fr hg]
    rfl
  | v :: rest, i, cur, w, hg, hl, hfr, h1 => by
    have hi : o + i < cur.size := by simp at hl; omega
    have hadd : (⟨g, o, none⟩ : Addr).add i = ⟨g, o + i, none⟩ := add_none g o i
    have hcell : w.cell? ⟨g, o + i, none⟩ = some cur[o + i] := by simp [World.cell?, hg, hi]
    have hfro : w.frozen? ⟨g, o + i, none⟩ = false := by
      obtain ⟨lo, hi'⟩ := fr
      simp [World.frozen?, hg]
      simp at hfr
      omega
    have hst : (store ((⟨g, o, none⟩ : Addr).add i) v).run P w = .ok () (w.setRow g (cur.setIfInBounds (o + i) v)) := by
      rw [hadd, run_store P w _ v _ (h1 v (by simp)), hcell]
      simp [hfro, setCell_eq_setRow w g (o + i) cur t fr v hg]
    have ih := run_storeCells_fr (P := P) g o t fr rest (i + 1) (cur.setIfInBounds (o + i) v) (w.setRow g (cur.setIfInBounds (o + i) v)) (setRow_heap w g cur _ t _ hg) (by simp at hl ⊢; omega) (by simp at hfr ⊢; omega) (fun x hx => h1 x (by simp [hx]))
    simp only [storeCells, Sem.run_bind, hst, Result.andThen_ok, ih, setRow_setRow]
    congr 3
    have e := list_seg_step cur.toList (o + i) v rest (by simp at hl ⊢; omega)
    simpa [Array.toList_setIfInBounds, Nat.add_assoc] using e

theorem storeVar_runF {P : Program} {tt : Ty} (ht : TyOk P tt) {ρ : Nm} {T T' : TypeId} {v : V} {w : World} {g o : Nat} {cur : List Value} {fr : Nat × Nat}
    (hg : w.heap[g]? = some (.cells cur.toArray T' fr)) (hsz : tySz tt T v.cells.length = true) (h1 : v.cells.all C.one = true) (ho : o + v.cells.length ≤ cur.length) (hfr : o + v.cells.length ≤ fr.1) :
    (storeVar T ⟨g, o, none⟩ (v.den ρ)).run P w = .ok () (w.setRow g (cur.take o ++ v.cells.map (C.den ρ) ++ cur.drop (o + v.cells.length)).toArray) := by
  unfold tySz at hsz
  split at hsz
  · rename_i t hl
    obtain ⟨i, hi1, hi2, _⟩ := (ht.get hl).info
    have hn := Nat.eq_of_beq_eq_true hsz
    have hr := run_storeCells_fr (P := P) g o T' fr (v.cells.map (C.den ρ)) 0 cur.toArray w hg (by simpa using ho) (by simpa using hfr) (fun u hu => by
      obtain ⟨c, hc, rfl⟩ := List.mem_map.1 hu
      exact C.one_den ρ (List.all_eq_true.1 h1 c hc))
    simp only [Nat.add_zero, List.length_map] at hr
    simp [storeVar, V.den_cells ρ h1, sizeOf, typeInfo, hi1, hi2, hn, hr]
  · cases hsz

theorem fx_store {ρ : Nm} {r : Nat} {F : Nat → Prop} {T' : TypeId} {sz i off : Nat} {es : List (List C)} {xx vs : List C} {w : World} (h : Res.holds ρ r w F (.ext (.fx T' sz es))) (hx : es[i]? = some xx)
    (hl : off + vs.length ≤ xx.length) (hpl : ∀ c ∈ vs, c.names = []) (h1 : ∀ c ∈ vs, c.one = true) :
    ∃ (g : Nat) (cur : List Value) (fr : Nat × Nat), ((ρ.rb r).getD ⟨0, 0, none⟩).add (i * sz + off) = ⟨g, i * sz + off, none⟩ ∧ w.heap[g]? = some (.cells cur.toArray T' fr) ∧ i * sz + off + vs.length ≤ cur.length ∧ i * sz + off + vs.length ≤ fr.1 ∧ (∀ b, F b ↔ b = g) ∧
      Res.holds ρ r (w.setRow g (cur.take (i * sz + off) ++ vs.map (C.den ρ) ++ cur.drop (i * sz + off + vs.length)).toArray) F (.ext (.fx T' sz (es.set i (setAt xx off vs)))) := by
  obtain ⟨hp, hn, hc, g, cur, fr, hv, hF, hg, hfr, hcs, htk⟩ := h
  have hxl := (hp xx (List.mem_of_getElem? hx)).1
  have hi : i < es.length := (List.getElem?_eq_some_iff.1 hx).1
  have hbound : i * sz + sz ≤ es.length * sz := by rw [← Nat.succ_mul]; exact Nat.mul_le_mul_right _ hi
  have e := @Array.length_toList _ cur
  have hcl : es.length * sz ≤ cur.toList.length := by rw [e]; exact hcs
  have hfl : (flat ρ es).length = es.length * sz := by rw [← htk, List.length_take]; omega
  have hy : (setAt xx off vs).length = sz ∧ ∀ c ∈ setAt xx off vs, c.names = [] ∧ c.one = true := by
    refine ⟨by simp [setAt]; omega, fun c hc => ?_⟩
    simp only [setAt, List.mem_append] at hc
    rcases hc with (hc | hc) | hc
    · exact (hp xx (List.mem_of_getElem? hx)).2 c (List.mem_of_mem_take hc)
    · exact ⟨hpl c hc, h1 c hc⟩
    · exact (hp xx (List.mem_of_getElem? hx)).2 c (List.mem_of_mem_drop hc)
  refine ⟨g, cur.toList, fr, ?_, by simpa using hg, by omega, by omega, hF, plainEs_set hp hy, by simpa using hn, by simpa using hc, g, _, fr, hv, hF, setRow_heap _ _ _ _ _ _ hg, by simpa using hfr, ?_, ?_⟩
  · rw [hv]; exact add_none g 0 _ |>.trans (by simp)
  · simp only [List.size_toArray, List.length_append, List.length_take, List.length_drop, List.length_map, e, List.length_set]; omega
  · have hxx : xx.map (C.den ρ) = ((flat ρ es).drop (i * sz)).take sz := by
      apply List.ext_getElem?
      intro j
      rw [List.getElem?_take]
      by_cases hj : j < sz
      · rw [if_pos hj, List.getElem?_drop, List.getElem?_map]
        have : xx[j]? = some (xx[j]'(by omega)) := List.getElem?_eq_getElem _
        rw [flat_get hp hx this, this]; rfl
      · rw [if_neg hj, List.getElem?_eq_none (by simp; omega)]
    have e1 : flat ρ (es.set i (setAt xx off vs)) = (flat ρ es).take (i * sz) ++ (setAt xx off vs).map (C.den ρ) ++ (flat ρ es).drop (i * sz + sz) := by
      unfold flat
      rw [flatten_set (fun x hx => (hp x hx).1) hx]
      simp [List.map_take, List.map_drop]
    have e2 : (setAt xx off vs).map (C.den ρ) = (((flat ρ es).drop (i * sz)).take sz).take off ++ vs.map (C.den ρ) ++ (((flat ρ es).drop (i * sz)).take sz).drop (off + (vs.map (C.den ρ)).length) := by
      rw [← hxx]; simp [setAt, List.map_take, List.map_drop]
    rw [e1, e2, splice_inner _ _ _ _ _ (by simp; omega) (by omega), ← htk]
    have := splice_take cur.toList (i * sz + off) (es.length * sz) (vs.map (C.den ρ)) (by simp; omega) hcl
    simp only [List.length_map] at this ⊢
    simpa using this

/-! ### Bytes -/
def byteC (b : UInt8) : C := .int .u8 (b.toNat : Nat)
def byteE (l : List UInt8) : List (List C) := l.map fun b => [byteC b]

theorem byteE_plain (l : List UInt8) : plainEs 1 (byteE l) := by
  intro x hx
  obtain ⟨b, _, rfl⟩ := List.mem_map.1 hx
  exact ⟨rfl, fun c hc => by simp at hc; subst hc; exact ⟨rfl, rfl⟩⟩
theorem byteE_len (l : List UInt8) : (byteE l).length = l.length := by simp [byteE]
theorem byteE_flat (ρ : Nm) (l : List UInt8) : flat ρ (byteE l) = l.map fun b => Value.int .u8 (b.toNat : Nat) := by
  unfold flat byteE
  induction l with
  | nil => rfl
  | cons b l ih => simp only [List.map_cons, List.flatten_cons, List.singleton_append]; rw [ih]; rfl
theorem byteE_get {l : List UInt8} {k : Nat} (h : k < l.length) : (byteE l)[k]? = some [byteC l[k]] := by simp [byteE, h]
theorem byteE_set (l : List UInt8) (k : Nat) (b : UInt8) : (byteE l).set k [byteC b] = byteE (l.set k b) := by simp [byteE]

structure BytesVC (es : List (List C)) (K : List UInt8 → Prop) : Prop where
  make ::
  out : ∃ l, es = byteE l ∧ K l
theorem BytesVC.mk {es : List (List C)} {K : List UInt8 → Prop} (l : List UInt8) (h : es = byteE l) (k : K l) : BytesVC es K := ⟨⟨l, h, k⟩⟩

def tyByteSl (tt : Ty) (T : TypeId) : Option TypeId := match look tt T with
  | some ⟨.slice e, _, _, _, _⟩ => match look tt e with
    | some ⟨.int .u8, _, _, _, _⟩ => some e
    | _ => none
  | _ => none

theorem tyByteSl_ok {P : Program} {tt : Ty} (ht : TyOk P tt) {T e : TypeId} (h : tyByteSl tt T = some e) : P.underlying T = some (.slice e) ∧ P.underlying e = some (.int .u8) := by
  unfold tyByteSl at h
  split at h
  · rename_i hl
    split at h
    · rename_i hl2
      obtain rfl := Option.some.inj h
      exact ⟨(ht.get hl).kind, (ht.get hl2).kind⟩
    · cases h
  · cases h

/-! ### A text's signs, one by one (all below 128) -/
structure NextVC (l : List UInt8) (pos : Nat) (K E : Prop) : Prop where
  make ::
  out : (pos < l.length → (l.getD pos 0).toNat < 128 ∧ K) ∧ (l.length ≤ pos → E)
theorem NextVC.mk {l : List UInt8} {pos : Nat} {K E : Prop} (h1 : pos < l.length → (l.getD pos 0).toNat < 128 ∧ K) (h2 : l.length ≤ pos → E) : NextVC l pos K E := ⟨⟨h1, h2⟩⟩

/-! ### Maps -/
def keyEq : C → C → Bool
  | .str a, .str b => decide (a = b)
  | .int _ a, .int _ b => decide (a = b)
  | _, _ => false
def getM : List (C × V) → C → Option V
  | [], _ => none
  | (k, v) :: r, c => if keyEq c k then some v else getM r c
def setM : List (C × V) → C → V → List (C × V)
  | [], c, v => [(c, v)]
  | (k, u) :: r, c, v => if keyEq c k then (c, v) :: r else (k, u) :: setM r c v

theorem keyEq_self {kd : Option IntKind} {c : C} (h : keyOk kd c = true) : keyEq c c = true := by
  cases kd <;> cases c <;> first | (simp [keyEq]; done) | cases h

theorem keyEq_iff {kd : Option IntKind} {c d : C} (hc : keyOk kd c = true) (hd : keyOk kd d = true) (ρ : Nm) : keyEq c d = true ↔ d.den ρ = c.den ρ := by
  cases kd <;> cases c <;> try (cases hc; done)
  all_goals (cases d <;> try (cases hd; done))
  · simp only [keyEq, decide_eq_true_eq, C.den, Value.string.injEq, ByteArray.mk.injEq]
    exact ⟨fun h => by rw [h], fun h => by have := congrArg Array.toList h; simpa using this.symm⟩
  · simp only [keyOk, decide_eq_true_eq] at hc hd
    subst hc hd
    simp only [keyEq, decide_eq_true_eq, C.den, Value.int.injEq, true_and]
    exact ⟨Eq.symm, Eq.symm⟩

theorem getM_set_self {kd : Option IntKind} : ∀ {es : List (C × V)} {c : C} {v : V}, keyOk kd c = true → getM (setM es c v) c = some v
  | [], c, v, h => by simp [setM, getM, keyEq_self h]
  | (k, u) :: r, c, v, h => by
    simp only [setM]
    split
    · simp [getM, keyEq_self h]
    · rename_i hk
      simp [getM, hk, getM_set_self h]

theorem keyEq_trans {kd : Option IntKind} {a b c : C} (ha : keyOk kd a = true) (hb : keyOk kd b = true) (hc : keyOk kd c = true) (h : keyEq a b = true) : keyEq c a = keyEq c b := by
  have ρ : Nm := ⟨fun _ => 0, fun _ => none, fun _ => 0, fun _ => 0, fun _ _ => (none, 0, 0)⟩
  have := (keyEq_iff ha hb ρ).1 h
  rw [Bool.eq_iff_iff, keyEq_iff hc ha ρ, keyEq_iff hc hb ρ, this]

theorem getM_set_ne {kd : Option IntKind} : ∀ {es : List (C × V)} {c d : C} {v : V}, (∀ p ∈ es, keyOk kd p.1 = true) → keyOk kd c = true → keyOk kd d = true → keyEq d c = false → getM (setM es c v) d = getM es d
  | [], c, d, v, _, _, _, h => by simp [setM, getM, h]
  | (k, u) :: r, c, d, v, hes, hc, hd, h => by
    simp only [setM]
    split
    · rename_i hk
      have := keyEq_trans hc (hes (k, u) (by simp)) hd hk
      rw [h] at this
      simp [getM, h, ← this]
    · simp only [getM]
      rw [getM_set_ne (fun p hp => hes p (by simp [hp])) hc hd h]

theorem mem_setM {es : List (C × V)} {c : C} {v : V} {p : C × V} : p ∈ setM es c v → p ∈ es ∨ p = (c, v) := by
  induction es with
  | nil => intro h; simp [setM] at h; exact .inr h
  | cons q r ih =>
    obtain ⟨k, u⟩ := q
    intro h
    simp only [setM] at h
    split at h
    · rcases List.mem_cons.1 h with h | h
      · exact .inr h
      · exact .inl (List.mem_cons_of_mem _ h)
    · rcases List.mem_cons.1 h with h | h
      · exact .inl (h ▸ List.mem_cons_self)
      · exact (ih h).imp (List.mem_cons_of_mem _) id

theorem getM_mem : ∀ {es : List (C × V)} {c : C} {v : V}, getM es c = some v → ∃ k, (k, v) ∈ es ∧ keyEq c k = true
  | (k, u) :: r, c, v, h => by
    simp only [getM] at h
    split at h
    · rename_i hk
      obtain rfl := Option.some.inj h
      exact ⟨k, by simp, hk⟩
    · obtain ⟨k', h1, h2⟩ := getM_mem h
      exact ⟨k', List.mem_cons_of_mem _ h1, h2⟩

structure LookVC (es : List (C × V)) (key : C) (K : V → Prop) (E : Prop) : Prop where
  make ::
  out : (∀ v, getM es key = some v → K v) ∧ (getM es key = none → E)
theorem LookVC.mk {es : List (C × V)} {key : C} {K : V → Prop} {E : Prop} (h1 : ∀ v, getM es key = some v → K v) (h2 : getM es key = none → E) : LookVC es key K E := ⟨⟨h1, h2⟩⟩

def tyMap (tt : Ty) (T : TypeId) : Option (Option IntKind × TypeId) := match look tt T with
  | some ⟨.map k e, _, _, _, _⟩ => match look tt k with
    | some ⟨.str, _, _, _, _⟩ => some (none, e)
    | some ⟨.int kd, _, _, _, _⟩ => some (some kd, e)
    | _ => none
  | _ => none

def kdDesc : Option IntKind → TypeDesc
  | none => .string
  | some k => .int k

theorem tyMap_ok {P : Program} {tt : Ty} (ht : TyOk P tt) {T e : TypeId} {kd : Option IntKind} (h : tyMap tt T = some (kd, e)) : ∃ k, P.underlying T = some (.map k e) ∧ P.underlying k = some (kdDesc kd) := by
  unfold tyMap at h
  split at h
  · rename_i hl
    split at h
    · rename_i hl2
      simp only [Option.some.injEq, Prod.mk.injEq] at h
      obtain ⟨rfl, rfl⟩ := h
      exact ⟨_, (ht.get hl).kind, (ht.get hl2).kind⟩
    · rename_i hl2
      simp only [Option.some.injEq, Prod.mk.injEq] at h
      obtain ⟨rfl, rfl⟩ := h
      exact ⟨_, (ht.get hl).kind, (ht.get hl2).kind⟩
    · cases h
  · cases h

def kdIs : Option IntKind → Option IntKind → Bool
  | none, none => true
  | some a, some b => decide (a = b)
  | _, _ => false
theorem kdIs_eq {a b : Option IntKind} (h : kdIs a b = true) : a = b := by
  cases a <;> cases b <;> simp_all [kdIs]

/-- A zero of a map's elements, as a value. -/
def tyZeroV (tt : Ty) (T : TypeId) : Option V := match look tt T with
  | some ⟨_, sz, _, ag, z⟩ => match ag, z.map ofCell with
    | true, l => some (.agg l)
    | false, [c] => some (.c c)
    | _, _ => none
  | none => none

def plainV : V → Bool
  | .c x => match x.names with
    | [] => true
    | _ => false
  | .agg l => l.all fun c => match c.names with
    | [] => true
    | _ => false

theorem plainV_names {v : V} (h : plainV v = true) : v.names = [] := by
  cases v with
  | c x =>
    simp only [plainV] at h
    split at h
    · rename_i hx; exact hx
    · cases h
  | agg l =>
    simp only [plainV, List.all_eq_true] at h
    simp only [V.names, List.flatMap_eq_nil_iff]
    intro c hc
    have := h c hc
    split at this
    · rename_i hx; exact hx
    · cases this

/-! ### The operations -/
structure RestVC2 (P : Program) (N : Nat) (D0 : List Nat) (o : Oper) (env : Env) (mem : Mem) (k : St → Prop) : Prop where
  make ::
  out : OpVC P N D0 o env mem k

def exP (P : Program) (tt : Ty) (N : Nat) (D0 : List Nat) (o : Oper) (env : Env) (mem : Mem) (k : St → Prop) : Prop := match o.op with
  | .store T x y => match ev env x, ev env y with
    | some (.v (.c (.el r i sz off))), some (.v v) => match look mem r with
      | some (.ext (.fx T' sz' es)) => match decide (sz = sz'), tySz tt T v.cells.length, v.cells.all C.one, v.cells.all fun c => c.names.isEmpty with
        | true, true, true, true => LoadVC es i fun x => match Nat.ble (off + v.cells.length) x.length with
          | true => k ⟨putE env o.dst .und, memSet mem r (.ext (.fx T' sz' (es.set i (setAt x off v.cells))))⟩
          | false => RestVC2 P N D0 o env mem k
        | _, _, _, _ => RestVC2 P N D0 o env mem k
      | _ => RestVC2 P N D0 o env mem k
    | _, _ => RestVC2 P N D0 o env mem k
  | .convert S T x => match ev env x with
    | some (.v (.c (.str l))) => match o.dst, tyStr tt S, tyByteSl tt T with
      | some d, true, some e => match freshN D0 env mem d with
        | true => k ⟨(d, .v (.c (.sl d))) :: env, (d, .ext (.fx e 1 (byteE l))) :: mem⟩
        | false => RestVC2 P N D0 o env mem k
      | _, _, _ => RestVC2 P N D0 o env mem k
    | some (.v (.c (.sl r))) => match tyByteSl tt S, tyStr tt T, rowRes mem r with
      | some _, true, some (1, es) => BytesVC es fun l => k ⟨putE env o.dst (.v (.c (.str l))), mem⟩
      | _, _, _ => RestVC2 P N D0 o env mem k
    | _ => RestVC2 P N D0 o env mem k
  | .range T x => match ev env x with
    | some (.v (.c (.str l))) => match o.dst, tyStr tt T with
      | some d, true => match freshN D0 env mem d with
        | true => k ⟨(d, .v (.c (.ptr d 0))) :: env, (d, .ext (.it l 0)) :: mem⟩
        | false => RestVC2 P N D0 o env mem k
      | _, _ => RestVC2 P N D0 o env mem k
    | _ => RestVC2 P N D0 o env mem k
  | .next it true => match ev env it with
    | some (.v (.c (.ptr r 0))) => match look mem r with
      | some (.ext (.it l pos)) => NextVC l pos
          (k ⟨putE env o.dst (.tup [.c (.bool true), .c (.int .i64 pos), .c (.int .i32 ((l.getD pos 0).toNat : Nat))]), memSet mem r (.ext (.it l (pos + 1)))⟩)
          (k ⟨putE env o.dst (.tup [.c (.bool false)]), mem⟩)
      | _ => RestVC2 P N D0 o env mem k
    | _ => RestVC2 P N D0 o env mem k
  | .makeMap T none => match o.dst, tyMap tt T with
    | some d, some (kd, _) => match freshN D0 env mem d with
      | true => k ⟨(d, .v (.c (.mp d))) :: env, (d, .ext (.mp kd [])) :: mem⟩
      | false => RestVC2 P N D0 o env mem k
    | _, _ => RestVC2 P N D0 o env mem k
  | .lookup T m key ok => match ev env m, ev env key, tyMap tt T with
    | some (.v (.c (.mp r))), some (.v (.c c)), some (kd, e) => match look mem r, tyZeroV tt e with
      | some (.ext (.mp kd' es)), some z => match kdIs kd kd', keyOk kd c with
        | true, true => match ok with
          | true => LookVC es c (fun v => k ⟨putE env o.dst (.tup [v, .c (.bool true)]), mem⟩) (k ⟨putE env o.dst (.tup [z, .c (.bool false)]), mem⟩)
          | false => LookVC es c (fun v => k ⟨putE env o.dst (.v v), mem⟩) (k ⟨putE env o.dst (.v z), mem⟩)
        | _, _ => RestVC2 P N D0 o env mem k
      | _, _ => RestVC2 P N D0 o env mem k
    | _, _, _ => RestVC2 P N D0 o env mem k
  | .mapUpdate T m key x => match ev env m, ev env key, ev env x, tyMap tt T with
    | some (.v (.c (.mp r))), some (.v (.c c)), some (.v v), some (kd, _) => match look mem r with
      | some (.ext (.mp kd' es)) => match kdIs kd kd', keyOk kd c, plainV v with
        | true, true, true => k ⟨putE env o.dst .und, memSet mem r (.ext (.mp kd' (setM es c v)))⟩
        | _, _, _ => RestVC2 P N D0 o env mem k
      | _ => RestVC2 P N D0 o env mem k
    | _, _, _, _ => RestVC2 P N D0 o env mem k
  | .insert T m key x => match ev env m, ev env key, ev env x, tyMap tt T with
    | some (.v (.c (.mp r))), some (.v (.c c)), some (.v v), some (kd, _) => match look mem r with
      | some (.ext (.mp kd' es)) => match kdIs kd kd', keyOk kd c, plainV v with
        | true, true, true => k ⟨putE env o.dst .und, memSet mem r (.ext (.mp kd' (setM es c v)))⟩
        | _, _, _ => RestVC2 P N D0 o env mem k
      | _ => RestVC2 P N D0 o env mem k
    | _, _, _, _ => RestVC2 P N D0 o env mem k
  | .call ⟨.builtin .len, args, tys⟩ => match args.toList, tys.toList with
    | [x], [T] => match ev env x, tyMap tt T with
      | some (.v (.c (.mp r))), some _ => match look mem r with
        | some (.ext (.mp _ es)) => k ⟨putE env o.dst (.v (.c (.int .i64 es.length))), mem⟩
        | _ => RestVC2 P N D0 o env mem k
      | _, _ => RestVC2 P N D0 o env mem k
    | _, _ => RestVC2 P N D0 o env mem k
  | .call ⟨.builtin .max, args, tys⟩ => match args.toList with
    | [x, y] => match ev env x, ev env y with
      | some (.v (.c (.int kd a))), some (.v (.c (.int kd' b))) => match decide (kd = kd') with
        | true => k ⟨putE env o.dst (.v (.c (.int kd (if a < b then b else a)))), mem⟩
        | false => RestVC2 P N D0 o env mem k
      | _, _ => RestVC2 P N D0 o env mem k
    | _ => RestVC2 P N D0 o env mem k
  | .call ⟨.builtin .min, args, tys⟩ => match args.toList with
    | [x, y] => match ev env x, ev env y with
      | some (.v (.c (.int kd a))), some (.v (.c (.int kd' b))) => match decide (kd = kd') with
        | true => k ⟨putE env o.dst (.v (.c (.int kd (if b < a then b else a)))), mem⟩
        | false => RestVC2 P N D0 o env mem k
      | _, _ => RestVC2 P N D0 o env mem k
    | _ => RestVC2 P N D0 o env mem k
  | _ => RestVC2 P N D0 o env mem k

theorem mapIs.keys {ρ : Nm} {kd : Option IntKind} {es : List (C × V)} {ents : Array MapEntry} {clock : Nat} (h : mapIs ρ kd es ents clock) : ∀ x ∈ ents.toList, MapKept.IsKey (kdDesc kd) x.key := by
  intro x hx
  have hm : (x.key, x.val) ∈ es.map (fun p => (p.1.den ρ, p.2.den ρ)) := by rw [← h.1]; exact List.mem_map.2 ⟨x, hx, rfl⟩
  obtain ⟨p, hp, he⟩ := List.mem_map.1 hm
  have hk := (h.2.1 p hp).1
  simp only [Prod.mk.injEq] at he
  rw [← he.1]
  revert hk
  cases kd <;> cases p.1 <;> intro hk <;> try (cases hk; done)
  · simp [kdDesc, C.den, MapKept.IsKey]
  · simp only [keyOk, decide_eq_true_eq] at hk
    simp [kdDesc, C.den, MapKept.IsKey, hk]

theorem key_isKey {kd : Option IntKind} {c : C} (h : keyOk kd c = true) (ρ : Nm) : MapKept.IsKey (kdDesc kd) (c.den ρ) := by
  cases kd <;> cases c <;> try (cases h; done)
  · simp [kdDesc, C.den, MapKept.IsKey]
  · simp only [keyOk, decide_eq_true_eq] at h
    simp [kdDesc, C.den, MapKept.IsKey, h]

theorem getM_none_of {ρ : Nm} {kd : Option IntKind} {c : C} (hc : keyOk kd c = true) : ∀ {es : List (C × V)}, (∀ p ∈ es, keyOk kd p.1 = true) → (∀ p ∈ es, p.1.den ρ ≠ c.den ρ) → getM es c = none ∧ ∀ v, setM es c v = es ++ [(c, v)]
  | [], _, _ => ⟨rfl, fun v => rfl⟩
  | (k, u) :: r, h1, h2 => by
    have hk : keyEq c k = false := by
      rw [← Bool.not_eq_true, keyEq_iff hc (h1 (k, u) (by simp)) ρ]
      exact h2 (k, u) (by simp)
    obtain ⟨h3, h4⟩ := getM_none_of (ρ := ρ) hc (es := r) (fun p hp => h1 p (by simp [hp])) (fun p hp => h2 p (by simp [hp]))
    exact ⟨by simp [getM, hk, h3], fun v => by simp [setM, hk, h4]⟩

theorem getM_some_of {ρ : Nm} {kd : Option IntKind} {c : C} (hc : keyOk kd c = true) : ∀ {es : List (C × V)} {j : Nat} {p : C × V}, (∀ p ∈ es, keyOk kd p.1 = true) → (es.map fun p => p.1.den ρ).Nodup → es[j]? = some p → p.1.den ρ = c.den ρ →
    getM es c = some p.2 ∧ ∀ v, (setM es c v).map (fun p => (p.1.den ρ, p.2.den ρ)) = (es.map (fun p => (p.1.den ρ, p.2.den ρ))).set j (c.den ρ, v.den ρ)
  | [], j, p, _, _, h, _ => by simp at h
  | (k, u) :: r, j, p, h1, hn, h, he => by
    have hkk := h1 (k, u) (by simp)
    cases j with
    | zero =>
      simp at h
      subst h
      have hk : keyEq c k = true := (keyEq_iff hc hkk ρ).2 he
      exact ⟨by simp [getM, hk], fun v => by simp [setM, hk]⟩
    | succ j =>
      simp at h
      simp only [List.map_cons, List.nodup_cons] at hn
      have hk : keyEq c k = false := by
        rw [← Bool.not_eq_true, keyEq_iff hc hkk ρ]
        intro e
        refine hn.1 ?_
        rw [e, ← he]
        exact List.mem_map.2 ⟨p, List.mem_of_getElem? h, rfl⟩
      obtain ⟨h3, h4⟩ := getM_some_of (ρ := ρ) hc (es := r) (fun p hp => h1 p (by simp [hp])) hn.2 h he
      exact ⟨by simp [getM, hk, h3], fun v => by simp [setM, hk, h4]⟩

/-- What a look into a map finds. -/
theorem mapIs.find {ρ : Nm} {kd : Option IntKind} {es : List (C × V)} {ents : Array MapEntry} {clock : Nat} (h : mapIs ρ kd es ents clock) {c : C} (hc : keyOk kd c = true) :
    (Instr.findNow (kdDesc kd) (c.den ρ) ents.toList 0 = some none ∧ (∀ x ∈ ents.toList, x.key ≠ c.den ρ) ∧ getM es c = none ∧ ∀ v, setM es c v = es ++ [(c, v)]) ∨
    ∃ j e v, Instr.findNow (kdDesc kd) (c.den ρ) ents.toList 0 = some (some (j, e.val)) ∧ ents.toList[j]? = some e ∧ e.key = c.den ρ ∧ getM es c = some v ∧ e.val = v.den ρ ∧
      ∀ v', (setM es c v').map (fun p => (p.1.den ρ, p.2.den ρ)) = (es.map (fun p => (p.1.den ρ, p.2.den ρ))).set j (c.den ρ, v'.den ρ) := by
  rcases MapKept.findNow_spec (key_isKey hc ρ) ents.toList 0 h.keys with ⟨h1, h2⟩ | ⟨j, e, h1, h2, h3⟩
  · refine .inl ⟨h1, h2, getM_none_of (ρ := ρ) hc (fun p hp => (h.2.1 p hp).1) fun p hp e => ?_⟩
    have hm : (p.1.den ρ, p.2.den ρ) ∈ ents.toList.map (fun e => (e.key, e.val)) := by rw [h.1]; exact List.mem_map.2 ⟨p, hp, rfl⟩
    obtain ⟨x, hx, hxe⟩ := List.mem_map.1 hm
    simp only [Prod.mk.injEq] at hxe
    exact h2 x hx (hxe.1.trans e)
  · right
    have hj : (es.map (fun p => (p.1.den ρ, p.2.den ρ)))[j]? = some (e.key, e.val) := by rw [← h.1, List.getElem?_map, h2]; rfl
    rw [List.getElem?_map] at hj
    cases hp : es[j]? with
    | none => rw [hp] at hj; cases hj
    | some p =>
      rw [hp] at hj
      simp only [Option.map_some, Option.some.injEq, Prod.mk.injEq] at hj
      have hnd : (es.map fun p => p.1.den ρ).Nodup := by
        have e1 : (es.map fun p => p.1.den ρ) = ents.toList.map (·.key) := by
          have := congrArg (List.map Prod.fst) h.1
          simpa [List.map_map, Function.comp_def] using this.symm
        rw [e1]; exact h.2.2.2.2
      obtain ⟨g1, g2⟩ := getM_some_of (ρ := ρ) hc (fun p hp => (h.2.1 p hp).1) hnd hp (hj.1.trans h3)
      exact ⟨j, e, p.2, by simpa using h1, by simpa using h2, h3, g1, hj.2.symm, g2⟩

theorem mapIs.len {ρ : Nm} {kd : Option IntKind} {es : List (C × V)} {ents : Array MapEntry} {clock : Nat} (h : mapIs ρ kd es ents clock) : es.length = ents.size := by
  have := congrArg List.length h.1
  simpa using this.symm

theorem setM_ok {kd : Option IntKind} {es : List (C × V)} {c : C} {v : V} (h : ∀ p ∈ es, keyOk kd p.1 = true ∧ p.2.names = []) (hc : keyOk kd c = true) (hv : v.names = []) : ∀ p ∈ setM es c v, keyOk kd p.1 = true ∧ p.2.names = [] := by
  intro p hp
  rcases mem_setM hp with hp | rfl
  · exact h p hp
  · exact ⟨hc, hv⟩

/-- Storing into a map. -/
theorem map_store {P : Program} {ρ : Nm} {kd : Option IntKind} {es : List (C × V)} {ents : Array MapEntry} {clock : Nat} {w : World} {T k e : TypeId} {r : Nat} (hb : w.heap[r]? = some (.map ents clock)) (h : mapIs ρ kd es ents clock)
    {c : C} (hc : keyOk kd c = true) {v : V} (hv : v.names = []) (hT : P.underlying T = some (.map k e)) (hk : P.underlying k = some (kdDesc kd)) :
    ∃ ents' clock', (Instr.mapUpdate T (.map (some r)) (c.den ρ) (v.den ρ)).run P w = .ok () { w with heap := w.heap.setIfInBounds r (.map ents' clock') } ∧ mapIs ρ kd (setM es c v) ents' clock' := by
  have hik := key_isKey hc ρ
  rcases h.find hc with ⟨h1, h2, h3, h4⟩ | ⟨j, x, u, h1, h2, h3, h4, h5, h6⟩
  · refine ⟨ents.push { key := c.den ρ, val := v.den ρ, born := clock }, clock + 1, ?_, ?_, setM_ok h.2.1 hc hv, MapKept.stamped_push h.2.2 h2⟩
    · simp [Instr.mapUpdate, run_underlying hT, MapKept.run_getObj_map hb, MapKept.run_checkKey hk hik, MapKept.run_findKey hk h1, MapKept.run_setObj_map _ hb, Result.andThen]
    · rw [h4 v]
      simp [h.1]
  · have hj : j < ents.size := by have := (List.getElem?_eq_some_iff.1 h2).1; simpa using this
    have hget : ents[j]? = some x := by rw [← Array.getElem?_toList]; exact h2
    refine ⟨ents.modify j fun e => { e with key := c.den ρ, val := v.den ρ }, clock, ?_, ?_, setM_ok h.2.1 hc hv, MapKept.stamped_modify h.2.2 _ _ (fun _ _ => rfl) fun y _ hy => ?_⟩
    · have hx : (((ents[j]?).map (·.key)).getD (c.den ρ)) = c.den ρ := by rw [hget]; exact h3
      simp [Instr.mapUpdate, run_underlying hT, MapKept.run_getObj_map hb, MapKept.run_checkKey hk hik, MapKept.run_findKey hk h1, hx, MapKept.run_keyThatStays hik, MapKept.run_setObj_map _ hb, Result.andThen]
    · rw [h6 v, ← h.1]
      apply List.ext_getElem?
      intro i
      simp only [List.getElem?_map, Array.getElem?_toList, Array.getElem?_modify, List.getElem?_set, List.length_map, Array.length_toList]
      by_cases hij : j = i
      · subst hij
        simp [hget, hj]
      · simp [hij]
    · rw [hget] at hy
      obtain rfl := Option.some.inj hy
      exact h3.symm

theorem tyZeroV_run {P : Program} {tt : Ty} (ht : TyOk P tt) {e : TypeId} {z : V} (h : tyZeroV tt e = some z) (ρ : Nm) (w : World) : (zeroValue e).run P w = .ok (z.den ρ) w := by
  unfold tyZeroV at h
  split at h
  · rename_i kd sz by_ ag zl hl
    obtain ⟨i, zz, h1, h2, h3⟩ := (ht.get hl).zer
    have hz : (zeroValue e).run P w = .ok zz w := by simp [zeroValue, typeInfo, h1, h2]
    rw [hz]
    split at h
    · obtain rfl := Option.some.inj h
      simp only [zIs] at h3
      rw [h3]
      simp only [V.den, map_ofCell]
    · rename_i c heq
      obtain rfl := Option.some.inj h
      match zl, heq with
      | [x], heq =>
        simp only [List.map_cons, List.map_nil, List.cons.injEq, and_true] at heq
        simp only [zIs] at h3
        subst heq
        rw [h3]
        simp [V.den, ofCell_den]
    · cases h
  · cases h

section
variable {P : Program} {tt : Ty} {N : Nat} {o : Oper} {k : St → Prop} {D0 : List Nat} {env : Env} {mem : Mem}

set_option maxHeartbeats 1000000 in
theorem OpVC.ext (ht : TyOk P tt) (h : exP P tt N D0 o env mem k) : OpVC P N D0 o env mem k := by
  constructor
  intro x ρ a w next Q hx hd hA hW hk
  subst hx
  have rest : RestVC2 P N x.D0 o env mem k → o.wp P a w next Q := fun h => h.out.out x ρ a w next Q rfl hd hA hW hk
  unfold exP at h
  obtain ⟨F, hF, hF0⟩ := hW.mem
  -- a new block whose value is given
  have newb : ∀ {d : Nat} {o' : Obj} {R : Res} {c : C} (ρ' : Nm) (w1 : World), o.dst = some d → freshN x.D0 env mem d = true → SatW x ρ mem w1 → w1.heap.size = w.heap.size → (∀ r, r ≠ d → ρ.agree ρ' r) →
      (execOp a.eval o).run P w = .ok (.value (c.den ρ')) (w1.alloc o') → R.holds ρ' d (w1.alloc o') (· = w1.heap.size) → k ⟨(d, .v (.c c)) :: env, (d, R) :: mem⟩ → o.wp P a w next Q := by
    intro d o' R c ρ' w1 hdst hfr hW1 hsz hag hrun hR hk'
    have hfr' := freshN_spec hfr
    have hd' : dstOk N (some d) = true := hdst ▸ hd
    unfold Oper.wp
    rw [hrun, Oper.upon_value, hdst]
    refine hk _ ρ' _ _ hk' ?_ (hW1.alloc hag hfr'.1 hfr'.2.2 hR)
    exact (hA.congr (ρ' := ρ') fun p hp r hr => hag r fun e => hfr'.2.1 p hp (e ▸ hr)).put hd' (.v (.c c))
  -- an operation that turns one resource and yields nothing
  have turn : ∀ {r : Nat} {R R' : Res} {w' : World}, look mem r = some R → (execOp a.eval o).run P w = .ok .skip w' → w'.os = w.os → w'.tape = w.tape → w'.output = w.output → w.heap.size ≤ w'.heap.size →
      (∀ F, R.holds ρ r w F → ∃ F', R'.holds ρ r w' F' ∧ (∀ b, F' b → F b) ∧ (∀ b, b < w.heap.size → ¬ F b → w'.heap[b]? = w.heap[b]?)) → k ⟨putE env o.dst .und, memSet mem r R'⟩ → o.wp P a w next Q := by
    intro r R R' w' hl hrun h1 h2 h3 h4 hR hk'
    obtain ⟨rst, hp1, hp2⟩ := memSet_perm hl
    have hW' := (hW.write hp1 h1 h2 h3 h4 hR).perm (hp2 R')
    unfold Oper.wp
    rw [hrun]
    exact hk _ ρ _ _ hk' (hA.put hd .und) hW'
  -- the same, with a value
  have turnV : ∀ {r : Nat} {R R' : Res} {w' : World} {e : E}, look mem r = some R → (execOp a.eval o).run P w = .ok (.value (e.den ρ)) w' → w'.os = w.os → w'.tape = w.tape → w'.output = w.output → w.heap.size ≤ w'.heap.size →
      (∀ F, R.holds ρ r w F → ∃ F', R'.holds ρ r w' F' ∧ (∀ b, F' b → F b) ∧ (∀ b, b < w.heap.size → ¬ F b → w'.heap[b]? = w.heap[b]?)) → k ⟨putE env o.dst e, memSet mem r R'⟩ → o.wp P a w next Q := by
    intro r R R' w' e hl hrun h1 h2 h3 h4 hR hk'
    obtain ⟨rst, hp1, hp2⟩ := memSet_perm hl
    have hW' := (hW.write hp1 h1 h2 h3 h4 hR).perm (hp2 R')
    unfold Oper.wp
    rw [hrun, Oper.upon_value]
    exact hk _ ρ _ _ hk' (hA.put hd e) hW'
  split at h
  · rename_i T y z ho
    split at h
    · rename_i r i sz off v hy hz
      split at h
      · rename_i T' sz' es hl
        split at h
        · rename_i c1 c2 c3 c4
          have e1 := of_decide_eq_true c1
          subst e1
          obtain ⟨xx, hxx, h⟩ := h.out
          split at h
          · rename_i hle
            have hle' := Nat.le_of_ble_eq_true hle
            have hpl : ∀ c ∈ v.cells, c.names = [] := fun c hc => by simpa using List.all_eq_true.1 c4 c hc
            have h1 : ∀ c ∈ v.cells, c.one = true := fun c hc => List.all_eq_true.1 c3 c hc
            obtain ⟨F1, hR1, _⟩ := hF.get hl
            obtain ⟨g, cur, fr, q1, q2, q3, q4, q5, q6⟩ := fx_store hR1 hxx hle' hpl h1
            have hst := storeVar_runF (ρ := ρ) ht q2 c2 c3 q3 q4
            refine turn hl (w' := w.setRow g (cur.take (i * sz + off) ++ v.cells.map (C.den ρ) ++ cur.drop (i * sz + off + v.cells.length)).toArray) ?_ rfl rfl rfl (by simp [World.setRow]) (fun F2 hR2 => ?_) h
            · have ez : a.eval z = v.den ρ := ev_den hA hz
              have ey : a.eval y = .pointer (some ⟨g, i * sz + off, none⟩) := (ev_den hA hy).trans (by show Value.pointer (some _) = _; rw [q1])
              simp [execOp, ho, ez, ey, Instr.storeAt, Instr.sureAddr, hst]
            · have : F2 = F1 := by
                obtain ⟨_, _, _, g1, cur1, fr1, hv1, hF1, _⟩ := hR1
                obtain ⟨_, _, _, g2, cur2, fr2, hv2, hF2, _⟩ := hR2
                rw [hv1] at hv2
                simp only [Option.some.injEq, Addr.mk.injEq, and_true] at hv2
                subst hv2
                exact funext fun b => propext ((hF2 b).trans (hF1 b).symm)
              subst this
              exact ⟨F2, q6, fun b hb => hb, fun b hb hn => setRow_other _ _ _ _ fun e => hn ((q5 b).2 e)⟩
          · exact rest h
        · exact rest h
      · exact rest h
    · exact rest h
  · rename_i S T y ho
    split at h
    · rename_i l hy
      split at h
      · rename_i d e hdst hS hT
        split at h
        · rename_i hfr
          obtain ⟨hu, he⟩ := tyByteSl_ok ht hT
          have hus := tyStr_ok ht hS
          have hr := run_bytes_of_string (P := P) w S T e ⟨l.toArray⟩ hus hu he
          have hcap := grownCap_ge w l.length 0 e
          have hbr : (bytesRow ⟨l.toArray⟩ (grownCap w l.length 0 e)).toList.take l.length = l.map fun b => Value.int .u8 (b.toNat : Nat) := by
            simp [bytesRow]
          have hbs : l.length ≤ (bytesRow ⟨l.toArray⟩ (grownCap w l.length 0 e)).size := by simp [bytesRow]
          have hsz : (⟨l.toArray⟩ : ByteArray).size = l.length := rfl
          rw [hsz] at hr
          refine newb (o' := .cells (bytesRow ⟨l.toArray⟩ (grownCap w l.length 0 e)) e ((bytesRow ⟨l.toArray⟩ (grownCap w l.length 0 e)).size, (bytesRow ⟨l.toArray⟩ (grownCap w l.length 0 e)).size + 1)) (ρ.upd d (ρ.adr d) (some ⟨w.heap.size, 0, none⟩) l.length (grownCap w l.length 0 e)) w.drew hdst hfr hW.drewW rfl (fun r hr => ρ.upd_agree hr) ?_ ?_ h
          · simp [execOp, ho, ev_den hA hy, E.den, V.den, C.den, hr, Nm.upd]
          · refine ⟨byteE_plain l, by simp [Nm.upd, byteE_len], by simp [Nm.upd, byteE_len]; exact hcap, w.heap.size, _, _, by simp [Nm.upd], fun b => Iff.rfl, heap_alloc_new w.drew _, ?_, ?_, ?_⟩
            · simpa [byteE_len] using hbs
            · simpa [byteE_len] using hbs
            · rw [byteE_len, Nat.mul_one, byteE_flat]; exact hbr
        · exact rest h
      · exact rest h
    · rename_i r hy
      split at h
      · rename_i e es hS hT hrow
        have hh := h.out
        clear h
        obtain ⟨l, rfl, h⟩ := hh
        obtain ⟨hu, he⟩ := tyByteSl_ok ht hS
        have hus := tyStr_ok ht hT
        obtain ⟨R, hl', hir⟩ := rowRes_is hrow
        obtain ⟨F', hR, _⟩ := hF.get hl'
        obtain ⟨g1, g2, g3, g4⟩ := row_ok hR hir
        rw [byteE_len] at g2 g3
        refine value_wp (st := ⟨env, mem⟩) (e := .v (.c (.str l))) (kk := k) hd hA hW ?_ h hk
        rcases g4 with ⟨hb, hl0, hc⟩ | ⟨ad, had, hcell⟩
        · have hl1 : l = [] := by simpa [byteE] using hl0
          subst hl1
          have := run_convert_bytes_nil (P := P) (w := w) (dst := T) S e hu he 0 0
          have g2' : ρ.rn r = 0 := g2
          simp only [execOp, ho, ev_den hA hy, E.den, V.den, C.den, hb, hc, g2']
          simp [run_convert_bytes_string w S T e none 0 0 hu he hus, Conv.bytesToString]
          rfl
        · have hr := run_convert_bytes_back (P := P) w S T e ad (ρ.rc r) l hu he hus (fun j hj => hcell j _ (by rw [byteE_flat]; simp [hj]))
          simp [execOp, ho, ev_den hA hy, E.den, V.den, C.den, had, g2, hr]
      · exact rest h
    · exact rest h
  · rename_i T y ho
    split at h
    · rename_i l hy
      split at h
      · rename_i d hdst hT
        split at h
        · rename_i hfr
          have hus := tyStr_ok ht hT
          refine newb (c := .ptr d 0) (o' := .stringIter ⟨l.toArray⟩ 0) (R := .ext (.it l 0)) (ρ.upd d w.heap.size (ρ.rb d) (ρ.rn d) (ρ.rc d)) w hdst hfr hW rfl (fun r hr => ρ.upd_agree hr) ?_ ⟨fun b => by simp [Nm.upd], ?_⟩ h
          · have := run_range_string (P := P) w T ⟨l.toArray⟩ hus
            simp [execOp, ho, ev_den hA hy, E.den, V.den, C.den, this, Nm.upd, World.iter]
          · have := heap_alloc_new w (.stringIter ⟨l.toArray⟩ 0)
            simpa [Nm.upd] using this
        · exact rest h
      · exact rest h
    · exact rest h
  · rename_i it ho
    split at h
    · rename_i r hy
      split at h
      · rename_i l pos hl
        obtain ⟨h1, h2⟩ := h.out
        obtain ⟨F', hR, _⟩ := hF.get hl
        have hheap := hR.2
        have hlt := (Array.getElem?_eq_some_iff.1 hheap).1
        have hsz : (⟨l.toArray⟩ : ByteArray).size = l.length := rfl
        by_cases hpos : pos < l.length
        · obtain ⟨h3, h4⟩ := h1 hpos
          have hg : (⟨l.toArray⟩ : ByteArray)[pos]'(by rw [hsz]; exact hpos) = l.getD pos 0 := by
            simp only [List.getD_eq_getElem?_getD, List.getElem?_eq_getElem hpos, Option.getD_some]
            rfl
          have hdec := decode_ascii ⟨l.toArray⟩ pos (by rw [hsz]; exact hpos) (by rw [hg]; exact h3)
          rw [hg] at hdec
          refine turnV (R' := .ext (.it l (pos + 1))) (e := .tup [.c (.bool true), .c (.int .i64 pos), .c (.int .i32 ((l.getD pos 0).toNat : Nat))]) hl (w' := { w with heap := w.heap.setIfInBounds (ρ.adr r) (.stringIter ⟨l.toArray⟩ (pos + 1)) }) ?_ rfl rfl rfl (by simp) (fun F2 hR2 => ⟨F2, ⟨hR2.1, ?_⟩, fun b hb => hb, fun b hb hn => ?_⟩) h4
          · have hget : (getObj (ρ.adr r)).run P w = .ok (.stringIter ⟨l.toArray⟩ pos) w := by simp [getObj, Sem.run, hheap]
            have hset : (setObj (ρ.adr r) (.stringIter ⟨l.toArray⟩ (pos + 1))).run P w = .ok () { w with heap := w.heap.setIfInBounds (ρ.adr r) (.stringIter ⟨l.toArray⟩ (pos + 1)) } := by simp [setObj, Sem.run, hheap]
            simp only [execOp, ho, ev_den hA hy, E.den, V.den, C.den, Instr.next, Sem.run_bind, hget, Result.andThen_ok, hsz, hpos, if_true, hdec, hset]
            simp [goInt, E.den, V.den, C.den]
          · simp [hlt]
          · have hne : b ≠ ρ.adr r := fun e => hn ((hR2.1 b).2 e)
            simp [Ne.symm hne]
        · refine value_wp (st := ⟨env, mem⟩) (e := .tup [.c (.bool false)]) (kk := k) hd hA hW ?_ (h2 (by omega)) hk
          have hget : (getObj (ρ.adr r)).run P w = .ok (.stringIter ⟨l.toArray⟩ pos) w := by simp [getObj, Sem.run, hheap]
          simp only [execOp, ho, ev_den hA hy, E.den, V.den, C.den, Instr.next, Sem.run_bind, hget, Result.andThen_ok, hsz, hpos, if_false]
          simp [E.den, V.den, C.den]
      · exact rest h
    · exact rest h
  · rename_i T ho
    split at h
    · rename_i d kd e hdst hT
      split at h
      · rename_i hfr
        refine newb (c := .mp d) (o' := .map #[] 0) (R := .ext (.mp kd [])) (ρ.upd d w.heap.size (ρ.rb d) (ρ.rn d) (ρ.rc d)) w hdst hfr hW rfl (fun r hr => ρ.upd_agree hr) ?_ ⟨fun b => by simp [Nm.upd], #[], 0, ?_, by simp, by simp, MapKept.stamped_empty 0⟩ h
        · simp [execOp, ho, C.den, Instr.makeMap, Nm.upd]
        · have := heap_alloc_new w (.map #[] 0)
          simpa [Nm.upd] using this
      · exact rest h
    · exact rest h
  · rename_i T m key ok ho
    split at h
    · rename_i r c kd e hm hkey hT
      split at h
      · rename_i kd' es z hl hz
        split at h
        · rename_i c1 c2
          have e1 := kdIs_eq c1
          subst e1
          obtain ⟨kt, hu, huk⟩ := tyMap_ok ht hT
          obtain ⟨F', hR, _⟩ := hF.get hl
          obtain ⟨hFa, ents, clock, hb, hmap⟩ := hR
          have hik := key_isKey c2 ρ
          have hzr := tyZeroV_run ht hz ρ w
          have em : a.eval m = .map (some (ρ.adr r)) := ev_den hA hm
          have ek : a.eval key = c.den ρ := ev_den hA hkey
          have fin : ∀ (v : V) (fnd : Bool), (∀ e0 : Value, (Instr.lookup T (.map (some (ρ.adr r))) (c.den ρ) ok).run P w = .ok (if ok then .tuple #[v.den ρ, .bool fnd] else v.den ρ) w) →
              (if ok then k ⟨putE env o.dst (.tup [v, .c (.bool fnd)]), mem⟩ else k ⟨putE env o.dst (.v v), mem⟩) → o.wp P a w next Q := fun v fnd h1 h2 => by
            cases ok with
            | true =>
              refine value_wp (st := ⟨env, mem⟩) (e := .tup [v, .c (.bool fnd)]) (kk := k) hd hA hW ?_ (by simpa using h2) hk
              simp [execOp, ho, em, ek, E.den, h1 undef]
              rfl
            | false =>
              refine value_wp (st := ⟨env, mem⟩) (e := .v v) (kk := k) hd hA hW ?_ (by simpa using h2) hk
              simp [execOp, ho, em, ek, E.den, h1 undef]
          rcases hmap.find c2 with ⟨h1, _, h3, _⟩ | ⟨j, x', u, h1, _, _, h4, h5, _⟩
          · refine fin z false (fun _ => ?_) ?_
            · simp [Instr.lookup, run_underlying hu, MapKept.run_getObj_map hb, MapKept.run_checkKey huk hik, MapKept.run_findKey huk h1, hzr, Result.andThen]
            · cases ok with
              | true => exact h.out.2 h3
              | false => exact h.out.2 h3
          · refine fin u true (fun _ => ?_) ?_
            · simp [Instr.lookup, run_underlying hu, MapKept.run_getObj_map hb, MapKept.run_checkKey huk hik, MapKept.run_findKey huk h1, h5, Result.andThen]
            · cases ok with
              | true => exact h.out.1 u h4
              | false => exact h.out.1 u h4
        · exact rest h
      · exact rest h
    · exact rest h
  · rename_i T m key y ho
    split at h
    · rename_i r c v kd e hm hkey hy hT
      split at h
      · rename_i kd' es hl
        split at h
        · rename_i c1 c2 c3
          have e1 := kdIs_eq c1
          subst e1
          obtain ⟨kt, hu, huk⟩ := tyMap_ok ht hT
          obtain ⟨F', hR, _⟩ := hF.get hl
          obtain ⟨hFa, ents, clock, hb, hmap⟩ := hR
          obtain ⟨ents', clock', hrun, hmap'⟩ := map_store hb hmap c2 (plainV_names c3) hu huk
          have hlt := (Array.getElem?_eq_some_iff.1 hb).1
          have em : a.eval m = .map (some (ρ.adr r)) := ev_den hA hm
          have ek : a.eval key = c.den ρ := ev_den hA hkey
          have ev' : a.eval y = v.den ρ := ev_den hA hy
          refine turn (R' := .ext (.mp kd (setM es c v))) hl (w' := { w with heap := w.heap.setIfInBounds (ρ.adr r) (.map ents' clock') }) ?_ rfl rfl rfl (by simp) (fun F2 hR2 => ⟨F2, ⟨hR2.1, ents', clock', by simp [hlt], hmap'⟩, fun b hb => hb, fun b hb hn => ?_⟩) h
          · simp [execOp, ho, em, ek, ev', hrun]
          · have hne : b ≠ ρ.adr r := fun e => hn ((hR2.1 b).2 e)
            simp [Ne.symm hne]
        · exact rest h
      · exact rest h
    · exact rest h
  · rename_i T m key y ho
    split at h
    · rename_i r c v kd e hm hkey hy hT
      split at h
      · rename_i kd' es hl
        split at h
        · rename_i c1 c2 c3
          have e1 := kdIs_eq c1
          subst e1
          obtain ⟨kt, hu, huk⟩ := tyMap_ok ht hT
          obtain ⟨F', hR, _⟩ := hF.get hl
          obtain ⟨hFa, ents, clock, hb, hmap⟩ := hR
          obtain ⟨ents', clock', hrun, hmap'⟩ := map_store hb hmap c2 (plainV_names c3) hu huk
          have hlt := (Array.getElem?_eq_some_iff.1 hb).1
          have em : a.eval m = .map (some (ρ.adr r)) := ev_den hA hm
          have ek : a.eval key = c.den ρ := ev_den hA hkey
          have ev' : a.eval y = v.den ρ := ev_den hA hy
          refine turn (R' := .ext (.mp kd (setM es c v))) hl (w' := { w with heap := w.heap.setIfInBounds (ρ.adr r) (.map ents' clock') }) ?_ rfl rfl rfl (by simp) (fun F2 hR2 => ⟨F2, ⟨hR2.1, ents', clock', by simp [hlt], hmap'⟩, fun b hb => hb, fun b hb hn => ?_⟩) h
          · simp [execOp, ho, em, ek, ev', hrun]
          · have hne : b ≠ ρ.adr r := fun e => hn ((hR2.1 b).2 e)
            simp [Ne.symm hne]
        · exact rest h
      · exact rest h
    · exact rest h
  · rename_i args tys ho
    split at h
    · rename_i y T hargs htys
      split at h
      · rename_i r p hy hT
        split at h
        · rename_i kd es hl
          obtain ⟨kt, hu, huk⟩ := tyMap_ok (kd := p.1) (e := p.2) ht hT
          obtain ⟨F', hR, _⟩ := hF.get hl
          obtain ⟨hFa, ents, clock, hb, hmap⟩ := hR
          refine value_wp (st := ⟨env, mem⟩) (e := .v (.c (.int .i64 es.length))) (kk := k) hd hA hW ?_ h hk
          have hargs' : args = #[y] := Array.toList_inj.1 hargs
          have htys' : tys = #[T] := Array.toList_inj.1 htys
          simp only [execOp, ho, hargs', htys', resolve, invoke, builtin, Sem.run_bind, Sem.run_pure, Result.andThen_ok, List.map_toArray, List.map_cons, List.map_nil, ev_den hA hy, E.den, V.den, C.den]
          simp [Builtin.len_, run_underlying hu, MapKept.run_getObj_map hb, goInt, hmap.len]
        · exact rest h
      · exact rest h
    · exact rest h
  · rename_i args tys ho
    split at h
    · rename_i y z hargs
      split at h
      · rename_i kd n kd' m hy hz
        split at h
        · rename_i hdk
          have e1 := of_decide_eq_true hdk
          subst e1
          refine value_wp (st := ⟨env, mem⟩) (e := .v (.c (.int kd (if n < m then m else n)))) (kk := k) hd hA hW ?_ h hk
          have hargs' : args = #[y, z] := Array.toList_inj.1 hargs
          simp only [execOp, ho, hargs', resolve, invoke, builtin, Sem.run_bind, Sem.run_pure, Result.andThen_ok, List.map_toArray, List.map_cons, List.map_nil, ev_den hA hy, ev_den hA hz, E.den, V.den, C.den]
          simp [Builtin.max_, Builtin.max2]
        · exact rest h
      · exact rest h
    · exact rest h
  · rename_i args tys ho
    split at h
    · rename_i y z hargs
      split at h
      · rename_i kd n kd' m hy hz
        split at h
        · rename_i hdk
          have e1 := of_decide_eq_true hdk
          subst e1
          refine value_wp (st := ⟨env, mem⟩) (e := .v (.c (.int kd (if m < n then m else n)))) (kk := k) hd hA hW ?_ h hk
          have hargs' : args = #[y, z] := Array.toList_inj.1 hargs
          simp only [execOp, ho, hargs', resolve, invoke, builtin, Sem.run_bind, Sem.run_pure, Result.andThen_ok, List.map_toArray, List.map_cons, List.map_nil, ev_den hA hy, ev_den hA hz, E.den, V.den, C.den]
          simp [Builtin.min_, Builtin.min2]
        · exact rest h
      · exact rest h
    · exact rest h
  · exact rest h

theorem RestVC.ext (ht : TyOk P tt) (h : exP P tt N D0 o env mem k) : RestVC P N D0 o env mem k := ⟨OpVC.ext ht h⟩
end
end Go.Proofs.YtaidpalamhmghaaDoor.X
