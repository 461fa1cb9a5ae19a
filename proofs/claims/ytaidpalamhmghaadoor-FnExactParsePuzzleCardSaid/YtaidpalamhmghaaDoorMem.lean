/- New blocks, loads and stores of abstract memory. No condition. -/
import Derived.Test.YtaidpalamhmghaaDoorOps
namespace Go.Proofs.YtaidpalamhmghaaDoor.X
open Go.RowKit
set_option linter.unusedVariables false
set_option linter.unusedSimpArgs false

structure St where
  env : Env
  mem : Mem

def envHas (env : Env) (d : Nat) : Bool := env.any fun p => hasN p.2.names d
def memHas (m : Mem) (d : Nat) : Bool := m.any fun p => Nat.beq p.1 d || hasN p.2.names d
def freshN (D0 : List Nat) (env : Env) (mem : Mem) (d : Nat) : Bool := !(hasN D0 d) && (!(envHas env d) && !(memHas mem d))

theorem hasN_false {l : List Nat} {d : Nat} (h : hasN l d = false) : d ∉ l := by
  intro hm
  have : hasN l d = true := List.any_eq_true.2 ⟨d, hm, by simp⟩
  rw [h] at this; cases this

theorem freshN_spec {D0 : List Nat} {env : Env} {mem : Mem} {d : Nat} (h : freshN D0 env mem d = true) :
    d ∉ D0 ∧ (∀ p ∈ env, d ∉ p.2.names) ∧ ∀ p ∈ mem, p.1 ≠ d ∧ d ∉ p.2.names := by
  simp only [freshN, Bool.and_eq_true, Bool.not_eq_true'] at h
  refine ⟨hasN_false h.1, fun p hp => ?_, fun p hp => ?_⟩
  · have := h.2.1
    simp only [envHas, List.any_eq_false] at this
    exact hasN_false (Bool.eq_false_iff.2 (this p hp))
  · have := h.2.2
    simp only [memHas, List.any_eq_false] at this
    have := Bool.eq_false_iff.2 (this p hp)
    simp only [Bool.or_eq_false_iff] at this
    exact ⟨fun e => by rw [e] at this; simp at this, hasN_false this.2⟩

def Nm.upd (ρ : Nm) (d ad : Nat) (b : Option Addr) (n c : Nat) : Nm where
  adr r := if r = d then ad else ρ.adr r
  rb r := if r = d then b else ρ.rb r
  rn r := if r = d then n else ρ.rn r
  rc r := if r = d then c else ρ.rc r
  rv := ρ.rv

theorem Nm.upd_agree (ρ : Nm) {d ad : Nat} {b : Option Addr} {n c r : Nat} (h : r ≠ d) : ρ.agree (ρ.upd d ad b n c) r := by
  simp [Nm.agree, Nm.upd, h]

theorem heap_alloc_ne (w : World) (o : Obj) {b : Nat} (h : b < w.heap.size) : (w.alloc o).heap[b]? = w.heap[b]? := Below.heap_alloc w o b h

/-- A world with a new block: what held holds; the new block is the new name's. -/
theorem SatW.alloc {x : Cx} {ρ ρ' : Nm} {mem : Mem} {w : World} (hW : SatW x ρ mem w) {d : Nat} {R : Res} {o : Obj}
    (hag : ∀ r, r ≠ d → ρ.agree ρ' r) (hd : d ∉ x.D0) (hm : ∀ p ∈ mem, p.1 ≠ d ∧ d ∉ p.2.names)
    (hR : R.holds ρ' d (w.alloc o) (· = w.heap.size)) : SatW x ρ' ((d, R) :: mem) (w.alloc o) := by
  obtain ⟨F, hF, hF0⟩ := hW.mem
  refine ⟨⟨_, MemSat.cons (F := F) (fun b h1 h2 => ?_) hR ?_, fun b hb => ?_⟩, hW.os, hW.tape, hW.output, ?_, fun b h1 h2 => ?_, fun r hr => ?_⟩
  · have := hF.lt h2; omega
  · refine MemSat.congr (ρ := ρ) (fun p hp => ⟨hag _ (hm p hp).1, fun r hr => hag r fun e => (hm p hp).2 (e ▸ hr)⟩) ?_
    exact hF.frame fun b hb => heap_alloc_ne w o (hF.lt hb)
  · rcases hb with hb | hb
    · exact .inr (by have := hW.size; omega)
    · exact hF0 b hb
  · have := hW.size; have := World.size_alloc w o; omega
  · rw [heap_alloc_ne w o (by have := hW.size; omega)]; exact hW.keep b h1 h2
  · exact (hW.agr r hr).trans (hag r fun e => hd (e ▸ hr))

/-- A world in which blocks of one resource were written. -/
theorem SatW.write {x : Cx} {ρ : Nm} {mem rest : Mem} {w w' : World} (hW : SatW x ρ mem w) {r : Nat} {R R' : Res} (hp : mem.Perm ((r, R) :: rest))
    (hos : w'.os = w.os) (htp : w'.tape = w.tape) (hout : w'.output = w.output) (hsz : w.heap.size ≤ w'.heap.size)
    (hR : ∀ F, R.holds ρ r w F → ∃ F', R'.holds ρ r w' F' ∧ (∀ b, F' b → F b) ∧ (∀ b, b < w.heap.size → ¬ F b → w'.heap[b]? = w.heap[b]?)) :
    SatW x ρ ((r, R') :: rest) w' := by
  obtain ⟨F, hF, hF0⟩ := hW.mem
  obtain ⟨F1, F2, h1, h2, h3, h4⟩ := hF.perm hp
  obtain ⟨F', g1, g2, g3⟩ := hR F1 h3
  refine ⟨⟨_, MemSat.cons (F := F2) (fun b k1 k2 => h2 b (g2 b k1) k2) g1 ?_, fun b hb => ?_⟩, hos.trans hW.os, htp.trans hW.tape, hout.trans hW.output, Nat.le_trans hW.size hsz, fun b k1 k2 => ?_, hW.agr⟩
  · exact h4.frame fun b hb => g3 b (h4.lt hb) fun k => h2 b k hb
  · rcases hb with hb | hb
    · exact hF0 b ((h1 b).2 (.inl (g2 b hb)))
    · exact hF0 b ((h1 b).2 (.inr hb))
  · rw [g3 b (by have := hW.size; omega) fun k => ?_]
    · exact hW.keep b k1 k2
    · rcases hF0 b ((h1 b).2 (.inl k)) with k | k
      · exact k2 k
      · omega

/-! ### Loads -/
def loadC (tt : Ty) (T : TypeId) (cs : List C) (o : Nat) : Option V := match look tt T with
  | some ⟨_, sz, _, ag, _⟩ => match Nat.ble (o + sz) cs.length, ag with
    | true, true => some (.agg ((cs.drop o).take sz))
    | true, false => match sz, cs.drop o with
      | 1, c :: _ => some (.c c)
      | _, _ => none
    | _, _ => none
  | none => none

theorem loadC_run {P : Program} {tt : Ty} (ht : TyOk P tt) {ρ : Nm} {T : TypeId} {cs : List C} {o : Nat} {v : V} {w : World} {ad : Addr}
    (hc : ∀ j c, cs[j]? = some c → w.cell? (ad.add j) = some (c.den ρ)) (h : loadC tt T cs o = some v) : (loadVar T (ad.add o)).run P w = .ok (v.den ρ) w := by
  unfold loadC at h
  split at h
  · rename_i kd sz by_ ag z hl
    have hti := ht.get hl
    split at h
    · rename_i hle
      obtain ⟨i, hi1, hi2, _⟩ := hti.info
      have hag := hti.agg
      obtain rfl := Option.some.inj h
      have hle' : o + sz ≤ cs.length := Nat.le_of_ble_eq_true hle
      have hcells := run_loadCells_list (P := P) w (ad.add o) (((cs.drop o).take sz).map (C.den ρ)) (fun j u hj => by
        rw [List.getElem?_map] at hj
        obtain ⟨c, hc1, rfl⟩ := Option.map_eq_some_iff.1 hj
        rw [Addr.add_add']
        refine hc _ _ ?_
        rw [List.getElem?_take] at hc1
        split at hc1
        · rw [List.getElem?_drop] at hc1; exact hc1
        · cases hc1)
      have hlen : (((cs.drop o).take sz).map (C.den ρ)).length = sz := by simp; omega
      rw [hlen] at hcells
      have hAgg : (isAgg T).run P w = .ok true w := by
        unfold isAgg
        cases hu : P.underlying T with
        | none => rw [hu] at hag; simp at hag
        | some d => rw [hu] at hag; cases d <;> simp at hag <;> simp [run_underlying hu]
      simp [loadVar, hAgg, sizeOf, typeInfo, hi1, hi2, hcells, V.den]
    · rename_i hle
      split at h
      · rename_i c r heq
        have hag := hti.agg
        obtain rfl := Option.some.inj h
        have hAgg : (isAgg T).run P w = .ok false w := by
          unfold isAgg
          cases hu : P.underlying T with
          | none => have := K.some hti.kind; rw [hu] at this; cases this
          | some d => rw [hu] at hag; cases d <;> simp at hag <;> simp [run_underlying hu]
        have h0 : cs[o]? = some c := by
          have := congrArg (fun l => l[0]?) heq
          simpa using this
        have := hc o c h0
        simp [loadVar, hAgg, this, V.den]
      · cases h
    · cases h
  · cases h


/-! ### Stores -/
theorem C.one_den {c : C} (ρ : Nm) (h : c.one = true) : (c.den ρ).oneCell' = true := by
  cases c <;> first | rfl | exact h

def setAt (cs : List C) (o : Nat) (vs : List C) : List C := cs.take o ++ vs ++ cs.drop (o + vs.length)

def memSet : Mem → Nat → Res → Mem
  | [], _, _ => []
  | (k, S) :: m, r, R => match Nat.beq k r with
    | true => (k, R) :: m
    | false => (k, S) :: memSet m r R

theorem memSet_perm {m : Mem} {r : Nat} {R : Res} (h : look m r = some R) : ∃ rest, m.Perm ((r, R) :: rest) ∧ ∀ R', ((r, R') :: rest).Perm (memSet m r R') := by
  induction m with
  | nil => cases h
  | cons p m ih =>
    obtain ⟨k, S⟩ := p
    simp only [look] at h
    cases hb : Nat.beq k r with
    | true =>
      rw [hb] at h
      obtain rfl := Option.some.inj h
      have := Nat.eq_of_beq_eq_true hb
      subst this
      exact ⟨m, .refl _, fun R' => by simp [memSet]⟩
    | false =>
      rw [hb] at h
      obtain ⟨rest, h1, h2⟩ := ih h
      exact ⟨(k, S) :: rest, (List.Perm.cons _ h1).trans (.swap _ _ _), fun R' => by simp only [memSet, hb]; exact (List.Perm.swap _ _ _).trans (List.Perm.cons _ (h2 R'))⟩

theorem SatW.perm {x : Cx} {ρ : Nm} {m m' : Mem} {w : World} (hp : m.Perm m') (h : SatW x ρ m w) : SatW x ρ m' w := by
  obtain ⟨F, hF, h0⟩ := h.mem
  exact ⟨⟨F, hF.perm hp, h0⟩, h.os, h.tape, h.output, h.size, h.keep, h.agr⟩

def tySz (tt : Ty) (T : TypeId) (n : Nat) : Bool := match look tt T with
  | some t => Nat.beq t.sz n
  | none => false

theorem V.den_cells {v : V} (ρ : Nm) (h : v.cells.all C.one = true) : (v.den ρ).cells = (v.cells.map (C.den ρ)).toArray := by
  cases v with
  | c x =>
    have := C.one_den ρ (c := x) (by simpa [V.cells] using h)
    show (x.den ρ).cells = #[x.den ρ]
    generalize x.den ρ = y at this
    cases y <;> first | rfl | cases this
  | agg l => rfl

theorem storeVar_run {P : Program} {tt : Ty} (ht : TyOk P tt) {ρ : Nm} {T T' : TypeId} {v : V} {w : World} {g o : Nat} {cur : List Value}
    (hg : w.heap[g]? = some (.cells cur.toArray T' (0, 0))) (hsz : tySz tt T v.cells.length = true) (h1 : v.cells.all C.one = true) (ho : o + v.cells.length ≤ cur.length) :
    (storeVar T ⟨g, o, none⟩ (v.den ρ)).run P w = .ok () (w.setRow g (cur.take o ++ v.cells.map (C.den ρ) ++ cur.drop (o + v.cells.length)).toArray) := by
  unfold tySz at hsz
  split at hsz
  · rename_i t hl
    obtain ⟨i, hi1, hi2, _⟩ := (ht.get hl).info
    have hn := Nat.eq_of_beq_eq_true hsz
    have hr := run_storeCells_at (P := P) g o T' (v.cells.map (C.den ρ)) 0 cur.toArray w hg (by simpa using ho) (fun u hu => by
      obtain ⟨c, hc, rfl⟩ := List.mem_map.1 hu
      exact C.one_den ρ (List.all_eq_true.1 h1 c hc))
    simp only [Nat.add_zero, List.length_map] at hr
    simp [storeVar, V.den_cells ρ h1, sizeOf, typeInfo, hi1, hi2, hn, hr]
  · cases hsz

end Go.Proofs.YtaidpalamhmghaaDoor.X
