/- Abstract values, resources and states for a walk over the model's code; what each stands for. No condition. -/
import Derived.WalkKit
import Derived.WalkSpells
import Derived.WalkLawsBesides
import Derived.Deep.Quiet
import Derived.MapKept
namespace Go.Proofs.YtaidpalamhmghaaDoor.X
set_option linter.unusedVariables false
set_option linter.unusedSimpArgs false

/-! ### Abstract values -/
inductive C where
  | int (k : IntKind) (n : Int)
  | bool (x : Bool)
  | str (l : List UInt8)
  | val (x : Value)
  | ptr (r o : Nat)
  | el (r i sz o : Nat)
  | sl (r : Nat)
  | sub (r lo sz len : Nat)
  | mp (r : Nat)
  | fn (f : FuncId) (caps : List Nat)
  | ins (r i : Nat)
  | eli (r i j sz o : Nat)

structure Nm where
  adr : Nat → Nat
  rb : Nat → Option Addr
  rn : Nat → Nat
  rc : Nat → Nat
  rv : Nat → Nat → Option Addr × Nat × Nat

def hdr (p : Option Addr × Nat × Nat) : Value := .slice p.1 p.2.1 p.2.2

def mkS (l : List UInt8) : Value := .string ⟨l.toArray⟩

def C.den (ρ : Nm) : C → Value
  | .int k n => .int k n
  | .bool x => .bool x
  | .str l => .string ⟨l.toArray⟩
  | .val x => x
  | .ptr r o => .pointer (some ⟨ρ.adr r, o, none⟩)
  | .el r i sz o => .pointer (some (((ρ.rb r).getD ⟨0, 0, none⟩).add (i * sz + o)))
  | .sl r => .slice (ρ.rb r) (ρ.rn r) (ρ.rc r)
  | .sub r lo sz len => .slice (if ρ.rc r = lo then ρ.rb r else (ρ.rb r).map (·.add (lo * sz))) len (ρ.rc r - lo)
  | .mp r => .map (some (ρ.adr r))
  | .fn f caps => .func (.func f) #[] (caps.map fun r => Value.pointer (some ⟨ρ.adr r, 0, none⟩)).toArray
  | .ins r i => hdr (ρ.rv r i)
  | .eli r i j sz o => .pointer (some (((ρ.rv r i).1.getD ⟨0, 0, none⟩).add (j * sz + o)))

inductive V where
  | c (x : C)
  | agg (l : List C)

def V.den (ρ : Nm) : V → Value
  | .c x => x.den ρ
  | .agg l => .agg (l.map (C.den ρ)).toArray

inductive E where
  | v (x : V)
  | tup (l : List V)
  | und

def E.den (ρ : Nm) : E → Value
  | .v x => x.den ρ
  | .tup l => .tuple (l.map (V.den ρ)).toArray
  | .und => undef

def V.cells : V → List C
  | .c x => [x]
  | .agg l => l

def C.names : C → List Nat
  | .ptr r _ | .el r _ _ _ | .sl r | .sub r _ _ _ | .mp r | .ins r _ | .eli r _ _ _ _ => [r]
  | .fn _ caps => caps
  | _ => []

def hasN (l : List Nat) (d : Nat) : Bool := l.any fun x => Nat.beq x d

def V.names : V → List Nat
  | .c x => x.names
  | .agg l => l.flatMap C.names

def E.names : E → List Nat
  | .v x => x.names
  | .tup l => l.flatMap V.names
  | .und => []

def Nm.agree (ρ ρ' : Nm) (r : Nat) : Prop := ρ.adr r = ρ'.adr r ∧ ρ.rb r = ρ'.rb r ∧ ρ.rn r = ρ'.rn r ∧ ρ.rc r = ρ'.rc r ∧ ρ.rv r = ρ'.rv r

theorem Nm.agree.refl (ρ : Nm) (r : Nat) : ρ.agree ρ r := ⟨rfl, rfl, rfl, rfl, rfl⟩
theorem Nm.agree.symm {ρ ρ' : Nm} {r : Nat} (h : ρ.agree ρ' r) : ρ'.agree ρ r := ⟨h.1.symm, h.2.1.symm, h.2.2.1.symm, h.2.2.2.1.symm, h.2.2.2.2.symm⟩
theorem Nm.agree.trans {ρ ρ' ρ'' : Nm} {r : Nat} (h : ρ.agree ρ' r) (g : ρ'.agree ρ'' r) : ρ.agree ρ'' r :=
  ⟨h.1.trans g.1, h.2.1.trans g.2.1, h.2.2.1.trans g.2.2.1, h.2.2.2.1.trans g.2.2.2.1, h.2.2.2.2.trans g.2.2.2.2⟩

theorem C.den_congr {ρ ρ' : Nm} (c : C) (h : ∀ r ∈ c.names, ρ.agree ρ' r) : c.den ρ = c.den ρ' := by
  cases c with
  | ptr r o => have := h r (by simp [C.names]); simp [C.den, this.1]
  | el r i sz o => have := h r (by simp [C.names]); simp [C.den, this.2.1]
  | sl r => have := h r (by simp [C.names]); simp [C.den, this.2.1, this.2.2.1, this.2.2.2.1]
  | sub r lo sz len => have := h r (by simp [C.names]); simp [C.den, this.2.1, this.2.2.2.1]
  | mp r => have := h r (by simp [C.names]); simp [C.den, this.1]
  | fn f caps =>
    simp only [C.den]
    congr 2
    refine List.map_congr_left fun r hr => ?_
    have := h r (by simpa [C.names] using hr)
    rw [this.1]
  | ins r i => have := h r (by simp [C.names]); simp [C.den, this.2.2.2.2]
  | eli r i j sz o => have := h r (by simp [C.names]); simp [C.den, this.2.2.2.2]
  | _ => rfl

theorem C.den_list_congr {ρ ρ' : Nm} (l : List C) (h : ∀ r ∈ l.flatMap C.names, ρ.agree ρ' r) : l.map (C.den ρ) = l.map (C.den ρ') :=
  List.map_congr_left fun c hc => c.den_congr fun r hr => h r (List.mem_flatMap.2 ⟨c, hc, hr⟩)

theorem V.den_congr {ρ ρ' : Nm} (x : V) (h : ∀ r ∈ x.names, ρ.agree ρ' r) : x.den ρ = x.den ρ' := by
  cases x with
  | c x => exact x.den_congr h
  | agg l => simp only [V.den]; rw [C.den_list_congr l h]

theorem V.den_list_congr {ρ ρ' : Nm} (l : List V) (h : ∀ r ∈ l.flatMap V.names, ρ.agree ρ' r) : l.map (V.den ρ) = l.map (V.den ρ') :=
  List.map_congr_left fun c hc => c.den_congr fun r hr => h r (List.mem_flatMap.2 ⟨c, hc, hr⟩)

theorem E.den_congr {ρ ρ' : Nm} (e : E) (h : ∀ r ∈ e.names, ρ.agree ρ' r) : e.den ρ = e.den ρ' := by
  cases e with
  | v x => exact x.den_congr h
  | tup l => simp only [E.den]; rw [V.den_list_congr l h]
  | und => rfl

/-! ### Resources -/
/-- Further kinds of resources: rows that are not grown, maps, a map's iterator with its map, a string's iterator, rows of rows. -/
inductive Ext where
  | fx (T : TypeId) (sz : Nat) (es : List (List C))
  | mp (kd : Option IntKind) (es : List (C × V))
  | rg (m : Nat) (kd : Option IntKind) (es rem : List (C × V))
  | it (l : List UInt8) (pos : Nat)
  | nest (T T2 : TypeId) (sz : Nat) (ess : List (List (List C))) (hs : List (Nat × Nat))

inductive Res where
  | box (T : TypeId) (cs : List C)
  | sl (T : TypeId) (sz : Nat) (es : List (List C))
  | ro (o : Obj) (T : TypeId) (sz : Nat) (es : List (List C))
  | pr (p : Nat → World → (Nat → Prop) → Prop)
      (loc : ∀ a w w' F, (∀ b, F b → w'.heap[b]? = w.heap[b]?) → p a w F → p a w' F)
      (lt : ∀ a w F b, p a w F → F b → b < w.heap.size)
  | ext (X : Ext)

abbrev Mem := List (Nat × Res)

def Ext.names : Ext → List Nat
  | .rg m _ _ _ => [m]
  | .nest _ _ _ _ hs => hs.map (·.2)
  | _ => []

def Res.names : Res → List Nat
  | .ext X => X.names
  | .box _ cs => cs.flatMap C.names
  | _ => []

def C.one : C → Bool
  | .val x => x.oneCell'
  | _ => true

/-- An element's cell names nothing and is one cell. -/
def plainEs (sz : Nat) (es : List (List C)) : Prop := ∀ x ∈ es, x.length = sz ∧ ∀ c ∈ x, c.names = [] ∧ c.one = true

/-- The cells of all elements, one behind the other. -/
def flat (ρ : Nm) (es : List (List C)) : List Value := es.flatten.map (C.den ρ)

/-- A row of its own behind a slice's value. -/
def slAt (ρ : Nm) (v : Value) (T : TypeId) (sz : Nat) (es : List (List C)) (w : World) (F : Nat → Prop) : Prop :=
  plainEs sz es ∧ (((∀ b, F b ↔ v.ownBlock = some b) ∧ w.ownsRow 0 T sz v es.length (flat ρ es)) ∨ ((∀ b, ¬ F b) ∧ es = [] ∧ ∃ b, v = .slice b 0 0))

/-- Which inner row has been taken out, under which name. -/
def holeAt : List (Nat × Nat) → Nat → Option Nat
  | [], _ => none
  | (k, z) :: r, i => if k = i then some z else holeAt r i

def InnerAt (ρ : Nm) (f : Nat → Option Addr × Nat × Nat) (T : TypeId) (sz : Nat) (h : Option Nat) (i : Nat) (es : List (List C)) (w : World) (F : Nat → Prop) : Prop := match h with
  | none => (f i).2.1 = es.length ∧ slAt ρ (hdr (f i)) T sz es w F
  | some z => (∀ b, ¬ F b) ∧ f i = (ρ.rb z, ρ.rn z, ρ.rc z)

def NestIn (ρ : Nm) (f : Nat → Option Addr × Nat × Nat) (T : TypeId) (sz : Nat) (hs : List (Nat × Nat)) : Nat → List (List (List C)) → World → (Nat → Prop) → Prop
  | _, [], _, F => ∀ b, ¬ F b
  | i, es :: rest, w, F => ∃ F1 F2, (∀ b, F b ↔ F1 b ∨ F2 b) ∧ (∀ b, F1 b → F2 b → False) ∧ InnerAt ρ f T sz (holeAt hs i) i es w F1 ∧ NestIn ρ f T sz hs (i + 1) rest w F2

/-- Keys of a kind: texts, or whole numbers of a kind. -/
def keyOk : Option IntKind → C → Bool
  | none, .str _ => true
  | some k, .int k' _ => decide (k = k')
  | _, _ => false

/-- What a map's entries hold. -/
def mapIs (ρ : Nm) (kd : Option IntKind) (es : List (C × V)) (ents : Array MapEntry) (clock : Nat) : Prop :=
  ents.toList.map (fun e => (e.key, e.val)) = es.map (fun p => (p.1.den ρ, p.2.den ρ)) ∧ (∀ p ∈ es, keyOk kd p.1 = true ∧ p.2.names = []) ∧ MapKept.Stamped ents clock

def Ext.holds (ρ : Nm) (r : Nat) (w : World) (F : Nat → Prop) : Ext → Prop
  | .fx T sz es => plainEs sz es ∧ ρ.rn r = es.length ∧ es.length ≤ ρ.rc r ∧ ∃ (g : Nat) (cur : Array Value) (fr : Nat × Nat), ρ.rb r = some ⟨g, 0, none⟩ ∧ (∀ b, F b ↔ b = g) ∧ w.heap[g]? = some (.cells cur T fr) ∧
      es.length * sz ≤ fr.1 ∧ es.length * sz ≤ cur.size ∧ cur.toList.take (es.length * sz) = flat ρ es
  | .mp kd es => (∀ b, F b ↔ b = ρ.adr r) ∧ ∃ ents clock, w.heap[ρ.adr r]? = some (.map ents clock) ∧ mapIs ρ kd es ents clock
  | .rg m kd es rem => ρ.adr r ≠ ρ.adr m ∧ (∀ b, F b ↔ b = ρ.adr r ∨ b = ρ.adr m) ∧ ∃ ents clock seen, w.heap[ρ.adr m]? = some (.map ents clock) ∧ mapIs ρ kd es ents clock ∧
      w.heap[ρ.adr r]? = some (.mapIter (some (ρ.adr m)) clock seen clock) ∧ (∀ p ∈ rem, keyOk kd p.1 = true ∧ p.2.names = []) ∧
      (ents.toList.filter (fun e => !seen.contains e.born)).map (fun e => (e.key, e.val)) = rem.map (fun p => (p.1.den ρ, p.2.den ρ))
  | .it l pos => (∀ b, F b ↔ b = ρ.adr r) ∧ w.heap[ρ.adr r]? = some (.stringIter ⟨l.toArray⟩ pos)
  | .nest T T2 sz ess hs => ρ.rn r = ess.length ∧ ∃ (F0 F1 : Nat → Prop), (∀ b, F b ↔ F0 b ∨ F1 b) ∧ (∀ b, F0 b → F1 b → False) ∧
      (((∀ b, F0 b ↔ (C.den ρ (.sl r)).ownBlock = some b) ∧ w.ownsRow 0 T 1 (C.den ρ (.sl r)) ess.length ((List.range ess.length).map fun i => hdr (ρ.rv r i))) ∨ ((∀ b, ¬ F0 b) ∧ ess = [] ∧ ρ.rc r = 0)) ∧
      NestIn ρ (ρ.rv r) T2 sz hs 0 ess w F1

def Res.holds (ρ : Nm) (r : Nat) (w : World) (F : Nat → Prop) : Res → Prop
  | .box T cs => (∀ b, F b ↔ b = ρ.adr r) ∧ w.heap[ρ.adr r]? = some (.cells (cs.map (C.den ρ)).toArray T (0, 0))
  | .sl T sz es => plainEs sz es ∧ ρ.rn r = es.length ∧
      (((∀ b, F b ↔ (C.den ρ (.sl r)).ownBlock = some b) ∧ w.ownsRow 0 T sz (C.den ρ (.sl r)) es.length (flat ρ es)) ∨ ((∀ b, ¬ F b) ∧ es = [] ∧ ρ.rc r = 0))
  | .ro o T sz es => plainEs sz es ∧ ρ.rn r = es.length ∧ ρ.rn r ≤ ρ.rc r ∧
      (((∀ b, ¬ F b) ∧ es = [] ∧ (ρ.rb r = none → ρ.rc r = 0)) ∨
       ∃ a, ρ.rb r = some a ∧ (∀ b, F b ↔ b = a.block) ∧ w.heap[a.block]? = some o ∧ ∀ j u, (flat ρ es)[j]? = some u → w.cell? (a.add j) = some u)
  | .pr p _ _ => p (ρ.adr r) w F
  | .ext X => X.holds ρ r w F

def MemSat (ρ : Nm) : Mem → World → (Nat → Prop) → Prop
  | [], _, F => ∀ b, ¬ F b
  | (r, R) :: m, w, F => ∃ F1 F2, (∀ b, F b ↔ F1 b ∨ F2 b) ∧ (∀ b, F1 b → F2 b → False) ∧ R.holds ρ r w F1 ∧ MemSat ρ m w F2

theorem add_block (a : Addr) (j : Nat) : (a.add j).block = a.block := by
  unfold Addr.add
  by_cases h : j = 0 <;> simp [h]

theorem cell_frame {w w' : World} {a : Addr} (h : w'.heap[a.block]? = w.heap[a.block]?) (j : Nat) : w'.cell? (a.add j) = w.cell? (a.add j) := by
  unfold World.cell?
  rw [add_block, h]

theorem slAt.lt {ρ : Nm} {v : Value} {T : TypeId} {sz : Nat} {es : List (List C)} {w : World} {F : Nat → Prop} (h : slAt ρ v T sz es w F) {b : Nat} (hb : F b) : b < w.heap.size := by
  rcases h.2 with h | h
  · exact (h.2.lt b ((h.1 b).1 hb)).2
  · exact (h.1 b hb).elim

theorem ownsRow_frame {w w' : World} {F : Nat → Prop} {T : TypeId} {sz n : Nat} {v : Value} {xs : List Value} (hF : ∀ b, F b ↔ v.ownBlock = some b) (hf : ∀ b, F b → w'.heap[b]? = w.heap[b]?)
    (h : w.ownsRow 0 T sz v n xs) : w'.ownsRow 0 T sz v n xs := by
  refine ⟨h.1, ?_⟩
  rcases h.2 with h5 | ⟨g, cap, cur, hv, hg, hw, hr⟩
  · exact .inl h5
  · refine .inr ⟨g, cap, cur, hv, hg, ?_, hr⟩
    rw [hf g ((hF g).2 (by rw [hv]; rfl))]; exact hw

theorem slAt.frame {ρ : Nm} {v : Value} {T : TypeId} {sz : Nat} {es : List (List C)} {w w' : World} {F : Nat → Prop} (hf : ∀ b, F b → w'.heap[b]? = w.heap[b]?) (h : slAt ρ v T sz es w F) : slAt ρ v T sz es w' F :=
  ⟨h.1, h.2.imp (fun h => ⟨h.1, ownsRow_frame h.1 hf h.2⟩) id⟩

theorem InnerAt.lt {ρ : Nm} {f : Nat → Option Addr × Nat × Nat} {T : TypeId} {sz : Nat} {h : Option Nat} {i : Nat} {es : List (List C)} {w : World} {F : Nat → Prop} (hh : InnerAt ρ f T sz h i es w F) {b : Nat} (hb : F b) : b < w.heap.size := by
  cases h with
  | none => exact hh.2.lt hb
  | some z => exact (hh.1 b hb).elim
theorem InnerAt.frame {ρ : Nm} {f : Nat → Option Addr × Nat × Nat} {T : TypeId} {sz : Nat} {h : Option Nat} {i : Nat} {es : List (List C)} {w w' : World} {F : Nat → Prop} (hf : ∀ b, F b → w'.heap[b]? = w.heap[b]?) (hh : InnerAt ρ f T sz h i es w F) : InnerAt ρ f T sz h i es w' F := by
  cases h with
  | none => exact ⟨hh.1, hh.2.frame hf⟩
  | some z => exact hh

theorem NestIn.lt {ρ : Nm} {f : Nat → Option Addr × Nat × Nat} {T : TypeId} {sz : Nat} {hs : List (Nat × Nat)} {w : World} : ∀ {ess : List (List (List C))} {i : Nat} {F : Nat → Prop}, NestIn ρ f T sz hs i ess w F → ∀ {b : Nat}, F b → b < w.heap.size
  | [], _, _, h, b, hb => (h b hb).elim
  | es :: rest, i, F, h, b, hb => by
    obtain ⟨F1, F2, h1, _, h3, h4⟩ := h
    rcases (h1 b).1 hb with h | h
    · exact h3.lt h
    · exact NestIn.lt h4 h

theorem NestIn.frame {ρ : Nm} {f : Nat → Option Addr × Nat × Nat} {T : TypeId} {sz : Nat} {hs : List (Nat × Nat)} {w w' : World} : ∀ {ess : List (List (List C))} {i : Nat} {F : Nat → Prop}, (∀ b, F b → w'.heap[b]? = w.heap[b]?) → NestIn ρ f T sz hs i ess w F → NestIn ρ f T sz hs i ess w' F
  | [], _, _, _, h => h
  | es :: rest, i, F, hf, h => by
    obtain ⟨F1, F2, h1, h2, h3, h4⟩ := h
    exact ⟨F1, F2, h1, h2, h3.frame fun b hb => hf b ((h1 b).2 (.inl hb)), NestIn.frame (fun b hb => hf b ((h1 b).2 (.inr hb))) h4⟩

theorem Ext.holds_lt {ρ : Nm} {r : Nat} {w : World} {F : Nat → Prop} {X : Ext} (h : X.holds ρ r w F) {b : Nat} (hb : F b) : b < w.heap.size := by
  cases X with
  | fx T sz es =>
    obtain ⟨_, _, _, g, cur, fr, _, h1, h2, _⟩ := h
    have := (h1 b).1 hb
    subst this
    exact (Array.getElem?_eq_some_iff.1 h2).1
  | mp kd es =>
    obtain ⟨h1, ents, clock, h2, _⟩ := h
    have := (h1 b).1 hb
    subst this
    exact (Array.getElem?_eq_some_iff.1 h2).1
  | rg m kd es rem =>
    obtain ⟨_, h1, ents, clock, seen, h2, _, h3, _⟩ := h
    rcases (h1 b).1 hb with rfl | rfl
    · exact (Array.getElem?_eq_some_iff.1 h3).1
    · exact (Array.getElem?_eq_some_iff.1 h2).1
  | it l pos =>
    have := (h.1 b).1 hb
    subst this
    exact (Array.getElem?_eq_some_iff.1 h.2).1
  | nest T T2 sz ess hs =>
    obtain ⟨_, F0, F1, h1, _, h3, h4⟩ := h
    rcases (h1 b).1 hb with h | h
    · rcases h3 with h3 | h3
      · exact (h3.2.lt b ((h3.1 b).1 h)).2
      · exact (h3.1 b h).elim
    · exact h4.lt h

theorem Ext.holds_frame {ρ : Nm} {r : Nat} {w w' : World} {F : Nat → Prop} {X : Ext} (hf : ∀ b, F b → w'.heap[b]? = w.heap[b]?) (h : X.holds ρ r w F) : X.holds ρ r w' F := by
  cases X with
  | fx T sz es =>
    obtain ⟨a1, a2, a3, g, cur, fr, a4, h1, h2, a5⟩ := h
    exact ⟨a1, a2, a3, g, cur, fr, a4, h1, by rw [hf _ ((h1 _).2 rfl)]; exact h2, a5⟩
  | mp kd es =>
    obtain ⟨h1, ents, clock, h2, h3⟩ := h
    exact ⟨h1, ents, clock, by rw [hf _ ((h1 _).2 rfl)]; exact h2, h3⟩
  | rg m kd es rem =>
    obtain ⟨h0, h1, ents, clock, seen, h2, h3, h4, h5⟩ := h
    exact ⟨h0, h1, ents, clock, seen, by rw [hf _ ((h1 _).2 (.inr rfl))]; exact h2, h3, by rw [hf _ ((h1 _).2 (.inl rfl))]; exact h4, h5⟩
  | it l pos => exact ⟨h.1, by rw [hf _ ((h.1 _).2 rfl)]; exact h.2⟩
  | nest T T2 sz ess hs =>
    obtain ⟨h0, F0, F1, h1, h2, h3, h4⟩ := h
    exact ⟨h0, F0, F1, h1, h2, h3.imp (fun h => ⟨h.1, ownsRow_frame h.1 (fun b hb => hf b ((h1 b).2 (.inl hb))) h.2⟩) id, h4.frame fun b hb => hf b ((h1 b).2 (.inr hb))⟩

theorem Res.holds_lt {ρ : Nm} {r : Nat} {w : World} {F : Nat → Prop} {R : Res} (h : R.holds ρ r w F) {b : Nat} (hb : F b) : b < w.heap.size := by
  cases R with
  | box T cs =>
    have := (h.1 b).1 hb
    subst this
    have := h.2
    exact (Array.getElem?_eq_some_iff.1 this).1
  | sl T sz es =>
    rcases h.2.2 with h | h
    · exact (h.2.lt b ((h.1 b).1 hb)).2
    · exact (h.1 b hb).elim
  | ro o T sz es =>
    obtain ⟨_, _, _, ⟨h3, _⟩ | ⟨a, ha, h3, h4, _⟩⟩ := h
    · exact (h3 b hb).elim
    · have := (h3 b).1 hb
      subst this
      exact (Array.getElem?_eq_some_iff.1 h4).1
  | pr p loc lt => exact lt _ _ _ _ h hb
  | ext X => exact Ext.holds_lt h hb

theorem Res.holds_frame {ρ : Nm} {r : Nat} {w w' : World} {F : Nat → Prop} {R : Res} (hf : ∀ b, F b → w'.heap[b]? = w.heap[b]?) (h : R.holds ρ r w F) : R.holds ρ r w' F := by
  cases R with
  | box T cs => exact ⟨h.1, by rw [hf _ ((h.1 _).2 rfl)]; exact h.2⟩
  | sl T sz es =>
    refine ⟨h.1, h.2.1, h.2.2.imp (fun h => ⟨h.1, h.2.1, ?_⟩) id⟩
    rcases h.2.2 with h5 | ⟨g, cap, cur, hv, hg, hw, hr⟩
    · exact .inl h5
    · refine .inr ⟨g, cap, cur, hv, hg, ?_, hr⟩
      rw [hf g ((h.1 g).2 (by rw [hv]; rfl))]; exact hw
  | ro o T sz es =>
    obtain ⟨h1, h2, hrc, h3⟩ := h
    refine ⟨h1, h2, hrc, h3.imp id fun ⟨a, ha, g1, g2, g3⟩ => ?_⟩
    have := hf _ ((g1 _).2 rfl)
    exact ⟨a, ha, g1, by rw [this]; exact g2, fun j u hj => by rw [cell_frame this]; exact g3 j u hj⟩
  | pr p loc lt => exact loc _ _ _ _ hf h
  | ext X => exact Ext.holds_frame hf h

theorem flat_congr {ρ ρ' : Nm} {sz : Nat} {es : List (List C)} (h : plainEs sz es) : flat ρ es = flat ρ' es := by
  unfold flat
  refine List.map_congr_left fun c hc => ?_
  obtain ⟨x, hx, hcx⟩ := List.mem_flatten.1 hc
  exact c.den_congr fun r hr => by rw [((h x hx).2 c hcx).1] at hr; cases hr

theorem C.den_plain {c : C} (h : c.names = []) (ρ ρ' : Nm) : c.den ρ = c.den ρ' := c.den_congr fun r hr => by rw [h] at hr; cases hr
theorem V.den_plain {c : V} (h : c.names = []) (ρ ρ' : Nm) : c.den ρ = c.den ρ' := c.den_congr fun r hr => by rw [h] at hr; cases hr

theorem keyOk_names {kd : Option IntKind} {c : C} (h : keyOk kd c = true) : c.names = [] := by
  cases kd <;> cases c <;> first | rfl | cases h

theorem pairs_congr {kd : Option IntKind} {es : List (C × V)} (h : ∀ p ∈ es, keyOk kd p.1 = true ∧ p.2.names = []) (ρ ρ' : Nm) : es.map (fun p => (p.1.den ρ, p.2.den ρ)) = es.map (fun p => (p.1.den ρ', p.2.den ρ')) :=
  List.map_congr_left fun p hp => by rw [C.den_plain (keyOk_names (h p hp).1) ρ ρ', V.den_plain (h p hp).2 ρ ρ']

theorem mapIs.congr {ρ ρ' : Nm} {kd : Option IntKind} {es : List (C × V)} {ents : Array MapEntry} {clock : Nat} (h : mapIs ρ kd es ents clock) : mapIs ρ' kd es ents clock :=
  ⟨h.1.trans (pairs_congr h.2.1 ρ ρ'), h.2⟩

theorem slAt.congr {ρ ρ' : Nm} {v : Value} {T : TypeId} {sz : Nat} {es : List (List C)} {w : World} {F : Nat → Prop} (h : slAt ρ v T sz es w F) : slAt ρ' v T sz es w F :=
  ⟨h.1, h.2.imp (fun h' => ⟨h'.1, by rw [← flat_congr (ρ := ρ) h.1]; exact h'.2⟩) id⟩

theorem holeAt_mem {hs : List (Nat × Nat)} {i z : Nat} (h : holeAt hs i = some z) : z ∈ hs.map (·.2) := by
  induction hs with
  | nil => cases h
  | cons p r ih =>
    obtain ⟨k, y⟩ := p
    simp only [holeAt] at h
    split at h
    · obtain rfl := Option.some.inj h; simp
    · have := ih h; simp only [List.map_cons, List.mem_cons]; exact .inr this
theorem InnerAt.congr {ρ ρ' : Nm} {f : Nat → Option Addr × Nat × Nat} {T : TypeId} {sz : Nat} {h : Option Nat} {i : Nat} {es : List (List C)} {w : World} {F : Nat → Prop} (hz : ∀ z, h = some z → ρ.agree ρ' z) (hh : InnerAt ρ f T sz h i es w F) : InnerAt ρ' f T sz h i es w F := by
  cases h with
  | none => exact ⟨hh.1, hh.2.congr⟩
  | some z =>
    have := hz z rfl
    exact ⟨hh.1, by rw [hh.2, this.2.1, this.2.2.1, this.2.2.2.1]⟩

theorem NestIn.congr {ρ ρ' : Nm} {f : Nat → Option Addr × Nat × Nat} {T : TypeId} {sz : Nat} {hs : List (Nat × Nat)} {w : World} (hz : ∀ z ∈ hs.map (·.2), ρ.agree ρ' z) : ∀ {ess : List (List (List C))} {i : Nat} {F : Nat → Prop}, NestIn ρ f T sz hs i ess w F → NestIn ρ' f T sz hs i ess w F
  | [], _, _, h => h
  | es :: rest, i, F, h => by
    obtain ⟨F1, F2, h1, h2, h3, h4⟩ := h
    exact ⟨F1, F2, h1, h2, h3.congr fun z e => hz z (holeAt_mem e), h4.congr hz⟩

theorem Ext.holds_congr {ρ ρ' : Nm} {r : Nat} {w : World} {F : Nat → Prop} {X : Ext} (h1 : ρ.agree ρ' r) (h2 : ∀ d ∈ X.names, ρ.agree ρ' d) (h : X.holds ρ r w F) : X.holds ρ' r w F := by
  cases X with
  | fx T sz es =>
    obtain ⟨a1, a2, a3, g, cur, fr, a4, a5, a6, a7, a8, a9⟩ := h
    exact ⟨a1, by rw [← h1.2.2.1]; exact a2, by rw [← h1.2.2.2.1]; exact a3, g, cur, fr, by rw [← h1.2.1]; exact a4, a5, a6, a7, a8, by rw [← flat_congr (ρ := ρ) a1]; exact a9⟩
  | mp kd es =>
    obtain ⟨a1, ents, clock, a2, a3⟩ := h
    exact ⟨fun b => by rw [a1 b, h1.1], ents, clock, by rw [← h1.1]; exact a2, a3.congr⟩
  | rg m kd es rem =>
    obtain ⟨a0, a1, ents, clock, seen, a2, a3, a4, a5, a6⟩ := h
    have h3 := h2 m (by simp [Ext.names])
    exact ⟨by rw [← h1.1, ← h3.1]; exact a0, fun b => by rw [a1 b, h1.1, h3.1], ents, clock, seen, by rw [← h3.1]; exact a2, a3.congr, by rw [← h1.1, ← h3.1]; exact a4, a5, a6.trans (pairs_congr a5 ρ ρ')⟩
  | it l pos => exact ⟨fun b => by rw [h.1 b, h1.1], by rw [← h1.1]; exact h.2⟩
  | nest T T2 sz ess hs =>
    obtain ⟨a0, F0, F1, a1, a2, a3, a4⟩ := h
    have e : C.den ρ' (.sl r) = C.den ρ (.sl r) := (C.den_congr (.sl r) fun d hd => by simp [C.names] at hd; subst hd; exact h1.symm.symm) ▸ rfl
    exact ⟨by rw [← h1.2.2.1]; exact a0, F0, F1, a1, a2, by rw [e, ← h1.2.2.2.2, ← h1.2.2.2.1]; exact a3, by rw [← h1.2.2.2.2]; exact a4.congr h2⟩

theorem Res.holds_congr {ρ ρ' : Nm} {r : Nat} {w : World} {F : Nat → Prop} {R : Res} (h1 : ρ.agree ρ' r) (h2 : ∀ d ∈ R.names, ρ.agree ρ' d) (h : R.holds ρ r w F) : R.holds ρ' r w F := by
  cases R with
  | box T cs =>
    refine ⟨fun b => by rw [h.1 b, h1.1], ?_⟩
    rw [← h1.1, ← C.den_list_congr (ρ := ρ) cs h2]; exact h.2
  | sl T sz es =>
    have e : C.den ρ' (.sl r) = C.den ρ (.sl r) := (C.den_congr (.sl r) fun d hd => by simp [C.names] at hd; subst hd; exact h1.symm.symm) ▸ rfl
    exact ⟨h.1, by rw [← h1.2.2.1]; exact h.2.1, h.2.2.imp (fun h' => ⟨fun b => by rw [h'.1 b, e], by rw [e, ← flat_congr (ρ := ρ) h.1]; exact h'.2⟩) fun h' => ⟨h'.1, h'.2.1, by rw [← h1.2.2.2.1]; exact h'.2.2⟩⟩
  | ro o T sz es =>
    obtain ⟨g1, g2, grc, g3⟩ := h
    refine ⟨g1, by rw [← h1.2.2.1]; exact g2, by rw [← h1.2.2.1, ← h1.2.2.2.1]; exact grc, ?_⟩
    rw [← h1.2.1, ← h1.2.2.2.1, ← flat_congr (ρ := ρ) g1]; exact g3
  | pr p loc lt => show p _ _ _; rw [← h1.1]; exact h
  | ext X => exact Ext.holds_congr h1 h2 h

theorem MemSat.lt {ρ : Nm} {m : Mem} {w : World} {F : Nat → Prop} (h : MemSat ρ m w F) {b : Nat} (hb : F b) : b < w.heap.size := by
  induction m generalizing F with
  | nil => exact (h b hb).elim
  | cons p m ih =>
    obtain ⟨r, R⟩ := p
    obtain ⟨F1, F2, hF, _, hR, hm⟩ := h
    rcases (hF b).1 hb with h1 | h2
    · exact Res.holds_lt hR h1
    · exact ih hm h2

theorem MemSat.frame {ρ : Nm} {m : Mem} {w w' : World} {F : Nat → Prop} (hf : ∀ b, F b → w'.heap[b]? = w.heap[b]?) (h : MemSat ρ m w F) : MemSat ρ m w' F := by
  induction m generalizing F with
  | nil => exact h
  | cons p m ih =>
    obtain ⟨r, R⟩ := p
    obtain ⟨F1, F2, hF, hd, hR, hm⟩ := h
    exact ⟨F1, F2, hF, hd, Res.holds_frame (fun b hb => hf b ((hF b).2 (.inl hb))) hR, ih (fun b hb => hf b ((hF b).2 (.inr hb))) hm⟩

theorem MemSat.congr {ρ ρ' : Nm} {m : Mem} {w : World} {F : Nat → Prop} (hn : ∀ p ∈ m, ρ.agree ρ' p.1 ∧ ∀ d ∈ p.2.names, ρ.agree ρ' d) (h : MemSat ρ m w F) : MemSat ρ' m w F := by
  induction m generalizing F with
  | nil => exact h
  | cons p m ih =>
    obtain ⟨r, R⟩ := p
    obtain ⟨F1, F2, hF, hd, hR, hm⟩ := h
    have := hn (r, R) (by simp)
    exact ⟨F1, F2, hF, hd, Res.holds_congr this.1 this.2 hR, ih (fun q hq => hn q (by simp [hq])) hm⟩

theorem MemSat.iff {ρ : Nm} {m : Mem} {w : World} {F F' : Nat → Prop} (hF : ∀ b, F b ↔ F' b) (h : MemSat ρ m w F) : MemSat ρ m w F' := by
  have : F = F' := funext fun b => propext (hF b)
  exact this ▸ h

theorem MemSat.cons {ρ : Nm} {m : Mem} {w : World} {F F1 : Nat → Prop} {r : Nat} {R : Res} (hd : ∀ b, F1 b → F b → False) (hR : R.holds ρ r w F1) (h : MemSat ρ m w F) :
    MemSat ρ ((r, R) :: m) w (fun b => F1 b ∨ F b) := ⟨F1, F, fun _ => Iff.rfl, hd, hR, h⟩

theorem MemSat.append {ρ : Nm} {m m' : Mem} {w : World} {F : Nat → Prop} : MemSat ρ (m ++ m') w F ↔ ∃ F1 F2, (∀ b, F b ↔ F1 b ∨ F2 b) ∧ (∀ b, F1 b → F2 b → False) ∧ MemSat ρ m w F1 ∧ MemSat ρ m' w F2 := by
  induction m generalizing F with
  | nil =>
    constructor
    · intro h; exact ⟨fun _ => False, F, fun b => by simp, fun b h => h.elim, fun b h => h, h⟩
    · rintro ⟨F1, F2, hF, _, h1, h2⟩
      exact h2.iff fun b => by rw [hF b]; exact ⟨.inr, fun h => h.resolve_left (h1 b)⟩
  | cons p m ih =>
    obtain ⟨r, R⟩ := p
    constructor
    · rintro ⟨F1, F2, hF, hd, hR, hm⟩
      obtain ⟨F3, F4, hF', hd', h3, h4⟩ := ih.1 hm
      refine ⟨fun b => F1 b ∨ F3 b, F4, fun b => by rw [hF b, hF' b, or_assoc], fun b h k => ?_, ⟨F1, F3, fun _ => Iff.rfl, fun b h k => hd b h ((hF' b).2 (.inl k)), hR, h3⟩, h4⟩
      rcases h with h | h
      · exact hd b h ((hF' b).2 (.inr k))
      · exact hd' b h k
    · rintro ⟨F1, F2, hF, hd, ⟨G1, G2, hG, hdG, hR, hm⟩, h2⟩
      refine ⟨G1, fun b => G2 b ∨ F2 b, fun b => by rw [hF b, hG b, or_assoc], fun b h k => ?_, hR, ih.2 ⟨G2, F2, fun _ => Iff.rfl, fun b h k => hd b ((hG b).2 (.inr h)) k, hm, h2⟩⟩
      rcases k with k | k
      · exact hdG b h k
      · exact hd b ((hG b).2 (.inl h)) k

theorem MemSat.swap {ρ : Nm} {p q : Nat × Res} {m : Mem} {w : World} {F : Nat → Prop} (h : MemSat ρ (p :: q :: m) w F) : MemSat ρ (q :: p :: m) w F := by
  obtain ⟨r, R⟩ := p
  obtain ⟨s, S⟩ := q
  obtain ⟨F1, F2, hF, hd, hR, G1, G2, hG, hdG, hS, hm⟩ := h
  refine ⟨G1, fun b => F1 b ∨ G2 b, fun b => ?_, fun b h k => ?_, hS, F1, G2, fun _ => Iff.rfl, fun b h k => hd b h ((hG b).2 (.inr k)), hR, hm⟩
  · rw [hF b, hG b]; constructor
    · rintro (h | h | h) <;> simp [h]
    · rintro (h | h | h) <;> simp [h]
  · rcases k with k | k
    · exact hd b k ((hG b).2 (.inl h))
    · exact hdG b h k

theorem MemSat.perm {ρ : Nm} {m m' : Mem} (hp : m.Perm m') : ∀ {w : World} {F : Nat → Prop}, MemSat ρ m w F → MemSat ρ m' w F := by
  induction hp with
  | nil => exact fun h => h
  | cons p _ ih =>
    intro w F h
    obtain ⟨r, R⟩ := p
    obtain ⟨F1, F2, hF, hd, hR, hm⟩ := h
    exact ⟨F1, F2, hF, hd, hR, ih hm⟩
  | swap p q m => exact fun h => h.swap
  | trans _ _ ih1 ih2 => exact fun h => ih2 (ih1 h)
/-! ### States -/
def look {α : Type} : List (Nat × α) → Nat → Option α
  | [], _ => none
  | (k, v) :: r, d => match Nat.beq k d with
    | true => some v
    | false => look r d

theorem look_cons_self {α : Type} (l : List (Nat × α)) (d : Nat) (v : α) : look ((d, v) :: l) d = some v := by simp [look]
theorem look_cons_ne {α : Type} (l : List (Nat × α)) {d d' : Nat} (v : α) (h : d ≠ d') : look ((d, v) :: l) d' = look l d' := by
  have : Nat.beq d d' = false := by rw [← Bool.not_eq_true]; intro hb; exact h (Nat.eq_of_beq_eq_true hb)
  simp [look, this]

theorem look_mem {α : Type} {l : List (Nat × α)} {d : Nat} {v : α} (h : look l d = some v) : (d, v) ∈ l := by
  induction l with
  | nil => cases h
  | cons p l ih =>
    obtain ⟨k, u⟩ := p
    simp only [look] at h
    cases hb : Nat.beq k d with
    | true => rw [hb] at h; simp at h; have := Nat.eq_of_beq_eq_true hb; simp [h, this]
    | false => rw [hb] at h; exact List.mem_cons_of_mem _ (ih h)

abbrev Env := List (Nat × E)

structure SatA (N : Nat) (ρ : Nm) (env : Env) (a : Act) : Prop where
  dfr : a.defers = []
  size : a.tmps.size = N
  env : ∀ d e, look env d = some e → a.tmps.getD d undef = e.den ρ

structure Cx where
  w0 : World
  F0 : Nat → Prop
  ρ0 : Nm
  D0 : List Nat

structure SatW (x : Cx) (ρ : Nm) (mem : Mem) (w : World) : Prop where
  mem : ∃ F, MemSat ρ mem w F ∧ ∀ b, F b → x.F0 b ∨ x.w0.heap.size ≤ b
  os : w.os = x.w0.os
  tape : w.tape = x.w0.tape
  output : w.output = x.w0.output
  size : x.w0.heap.size ≤ w.heap.size
  keep : ∀ b, b < x.w0.heap.size → ¬ x.F0 b → w.heap[b]? = x.w0.heap[b]?
  agr : ∀ r ∈ x.D0, x.ρ0.agree ρ r

def ofCell : Value → C
  | .int k n => .int k n
  | .bool b => .bool b
  | .string s => .str s.data.toList
  | x => .val x

theorem ofCell_den (ρ : Nm) (x : Value) : (ofCell x).den ρ = x := by cases x <;> rfl

def ofConst : Value → V
  | .agg cs => .agg (cs.toList.map ofCell)
  | x => .c (ofCell x)

theorem ofConst_den (ρ : Nm) (x : Value) : (ofConst x).den ρ = x := by
  cases x with
  | agg cs =>
    simp only [ofConst, V.den, List.map_map]
    have : (cs.toList.map (C.den ρ ∘ ofCell)) = cs.toList := by
      conv => rhs; rw [← List.map_id cs.toList]
      exact List.map_congr_left fun c _ => ofCell_den ρ c
    rw [this]
  | _ => rfl

def ev (env : Env) : Operand → Option E
  | .tmp t => look env t
  | .const v => some (.v (ofConst v))
  | .global g => some (.v (.c (.val (.pointer (some ⟨g, 0, none⟩)))))
  | .func f => some (.v (.c (.fn f [])))

theorem ev_den {N : Nat} {ρ : Nm} {env : Env} {a : Act} {x : Operand} {e : E} (h : SatA N ρ env a) (he : ev env x = some e) : a.eval x = e.den ρ := by
  cases x with
  | tmp t => exact h.env t e he
  | const v => simp only [ev, Option.some.injEq] at he; subst he; exact (ofConst_den ρ v).symm
  | global g => simp only [ev, Option.some.injEq] at he; subst he; rfl
  | func f => simp only [ev, Option.some.injEq] at he; subst he; rfl

def putE (env : Env) (dst : Option Tmp) (e : E) : Env := match dst with
  | some d => (d, e) :: env
  | none => env

def dstOk (N : Nat) : Option Tmp → Bool
  | some d => Nat.blt d N
  | none => true

theorem SatA.put {N : Nat} {ρ : Nm} {env : Env} {a : Act} (h : SatA N ρ env a) {dst : Option Tmp} (hd : dstOk N dst = true) (e : E) :
    SatA N ρ (putE env dst e) (a.put dst (e.den ρ)) := by
  cases dst with
  | none => exact h
  | some d =>
    have hdN : d < N := by simpa [dstOk, Nat.blt_eq] using hd
    refine ⟨h.dfr, by simp [Act.put, h.size], fun d' e' he => ?_⟩
    simp only [putE] at he
    by_cases hdd : d = d'
    · subst hdd
      rw [look_cons_self] at he
      obtain rfl := Option.some.inj he
      simp [Act.put, Array.getD_eq_getD_getElem?, h.size, hdN]
    · rw [look_cons_ne _ _ hdd] at he
      have := h.env d' e' he
      simp only [Act.put, Array.getD_eq_getD_getElem?] at this ⊢
      rw [Array.getElem?_setIfInBounds_ne hdd]
      exact this

theorem SatA.congr {N : Nat} {ρ ρ' : Nm} {env : Env} {a : Act} (h : SatA N ρ env a) (hn : ∀ p ∈ env, ∀ r ∈ p.2.names, ρ.agree ρ' r) : SatA N ρ' env a :=
  ⟨h.dfr, h.size, fun d e he => by rw [h.env d e he]; exact e.den_congr (hn (d, e) (look_mem he))⟩

/-! ### Types -/
inductive K where
  | int (k : IntKind)
  | bool
  | str
  | slice (e : TypeId)
  | struct (fs : List (Nat × Nat))
  | map (k e : TypeId)
  | other

structure TI where
  kind : K
  sz : Nat
  by_ : Nat
  agg : Bool
  zero : List Value

abbrev Ty := List (Nat × TI)

def K.ok (P : Program) (T : TypeId) : K → Prop
  | .int k => P.underlying T = some (.int k)
  | .bool => P.underlying T = some .bool
  | .str => P.underlying T = some .string
  | .slice e => P.underlying T = some (.slice e)
  | .struct l => ∃ (fs : Array Field), P.underlying T = some (.struct fs) ∧ fs.size = l.length ∧
      ∀ (i o s : Nat), l[i]? = some (o, s) → ∃ (f : Field) (j : TypeInfo), fs[i]? = some f ∧ f.offset = o ∧ P.info? f.type = some j ∧ j.size = s ∧ s ≠ 0
  | .map k e => P.underlying T = some (.map k e)
  | .other => (P.underlying T).isSome = true

def zIs : Bool → List Value → Value → Prop
  | true, l, z => z = .agg l.toArray
  | false, [c], z => z = c
  | _, _, _ => True

structure TI.ok (P : Program) (T : TypeId) (t : TI) : Prop where
  kind : t.kind.ok P T
  info : ∃ i, P.info? T = some i ∧ i.size = t.sz ∧ i.bytes = t.by_ ∧ ∃ z, i.zero = some z ∧ z.cells = t.zero.toArray
  agg : (match P.underlying T with | some (.struct _) | some (.array _ _) => true | _ => false) = t.agg
  zer : ∃ i z, P.info? T = some i ∧ i.zero = some z ∧ zIs t.agg t.zero z

def TyOk (P : Program) (tt : Ty) : Prop := ∀ p ∈ tt, p.2.ok P p.1

theorem TyOk.get {P : Program} {tt : Ty} (h : TyOk P tt) {T : TypeId} {t : TI} (hl : look tt T = some t) : t.ok P T := h (T, t) (look_mem hl)

/-! ### Operations that yield a value, without a condition -/
def tyBool (tt : Ty) (T : TypeId) : Bool := match look tt T with
  | some ⟨.bool, _, _, _, _⟩ => true
  | _ => false
def tyStr (tt : Ty) (T : TypeId) : Bool := match look tt T with
  | some ⟨.str, _, _, _, _⟩ => true
  | _ => false

def cmpI : BinOp → Int → Int → Option Bool
  | .eql, a, b => some (decide (a = b))
  | .neq, a, b => some (decide (¬ a = b))
  | .lss, a, b => some (decide (a < b))
  | .leq, a, b => some (decide (a ≤ b))
  | .gtr, a, b => some (decide (b < a))
  | .geq, a, b => some (decide (b ≤ a))
  | _, _, _ => none

def cmpS : BinOp → List UInt8 → List UInt8 → Option Bool
  | .eql, a, b => some (decide (a = b))
  | .neq, a, b => some (decide (¬ a = b))
  | .lss, a, b => some (Op.bytesLess a b)
  | _, _, _ => none

def cmpB : BinOp → Bool → Bool → Option Bool
  | .eql, a, b => some (decide (a = b))
  | .neq, a, b => some (decide (¬ a = b))
  | _, _, _ => none

def cmpOp (tt : Ty) (op : BinOp) (T : TypeId) : C → C → Option Bool
  | .int k a, .int k' b => match decide (k = k') with
    | true => cmpI op a b
    | false => none
  | .str a, .str b => cmpS op a b
  | .bool a, .bool b => match tyBool tt T with
    | true => cmpB op a b
    | false => none
  | _, _ => none

theorem toList_mk (l : List UInt8) : (⟨l.toArray⟩ : ByteArray).toList = l := ByteArray.toList_eq _

theorem cmp_run {P : Program} {tt : Ty} (ht : TyOk P tt) {op : BinOp} {T : TypeId} {x y : C} {r : Bool} (p q : Operand) (ρ : Nm) (w : World) (h : cmpOp tt op T x y = some r) :
    (do eqGuard op T p q (x.den ρ) (y.den ρ); binOp op T (x.den ρ) (y.den ρ) : Sem Value).run P w = .ok (.bool r) w := by
  cases x <;> cases y <;> simp only [cmpOp, reduceCtorEq] at h
  case int k a k' b =>
    by_cases hk : k = k'
    · subst hk
      simp only [decide_true] at h
      cases op <;> simp only [cmpI, Option.some.injEq, reduceCtorEq] at h <;> subst h <;> simp [eqGuard, C.den, go_sem]
      · exact (decide_eq_decide.2 Iff.rfl)
      · rfl
    · simp only [hk, decide_false, reduceCtorEq] at h
  case str a b =>
    cases op <;> simp only [cmpS, Option.some.injEq, reduceCtorEq] at h <;> subst h <;> simp [eqGuard, C.den, go_sem, toList_mk]
    all_goals (rw [Bool.eq_iff_iff]; simp)
  case bool a b =>
    cases ht' : tyBool tt T with
    | false => rw [ht'] at h; simp at h
    | true =>
      rw [ht'] at h
      have hu : P.underlying T = some .bool := by
        unfold tyBool at ht'
        split at ht'
        · rename_i heq; exact (ht.get heq).kind
        · cases ht'
      cases op <;> simp only [cmpB, Option.some.injEq, reduceCtorEq] at h <;> subst h <;> cases a <;> cases b <;> simp [eqGuard, C.den, go_sem, hu]

theorem MemSat.get {ρ : Nm} {m : Mem} {w : World} {F : Nat → Prop} (h : MemSat ρ m w F) {r : Nat} {R : Res} (hl : look m r = some R) : ∃ F', R.holds ρ r w F' ∧ ∀ b, F' b → F b := by
  induction m generalizing F with
  | nil => cases hl
  | cons p m ih =>
    obtain ⟨k, S⟩ := p
    obtain ⟨F1, F2, hF, hd, hR, hm⟩ := h
    simp only [look] at hl
    cases hb : Nat.beq k r with
    | true =>
      rw [hb] at hl
      simp only [Option.some.injEq] at hl
      subst hl
      have := Nat.eq_of_beq_eq_true hb
      subst this
      exact ⟨F1, hR, fun b h => (hF b).2 (.inl h)⟩
    | false =>
      rw [hb] at hl
      obtain ⟨F', h1, h2⟩ := ih hm hl
      exact ⟨F', h1, fun b h => (hF b).2 (.inr (h2 b h))⟩

def capsOf (env : Env) : List Operand → Option (List Nat)
  | [] => some []
  | x :: r => match ev env x, capsOf env r with
    | some (.v (.c (.ptr b 0))), some l => some (b :: l)
    | _, _ => none

theorem capsOf_den {N : Nat} {ρ : Nm} {env : Env} {a : Act} (h : SatA N ρ env a) : ∀ {xs : List Operand} {l : List Nat}, capsOf env xs = some l →
    xs.map a.eval = l.map fun r => Value.pointer (some ⟨ρ.adr r, 0, none⟩)
  | [], l, hc => by simp only [capsOf, Option.some.injEq] at hc; subst hc; rfl
  | x :: xs, l, hc => by
    simp only [capsOf] at hc
    split at hc
    · rename_i b l' hx hl
      simp only [Option.some.injEq] at hc
      subst hc
      simp only [List.map_cons, capsOf_den h hl, ev_den h hx]
      rfl
    · cases hc

/-- The elements of a row that lies in memory. -/
def rowRes (mem : Mem) (r : Nat) : Option (Nat × List (List C)) := match look mem r with
  | some (.sl _ sz es) => some (sz, es)
  | some (.ro _ _ sz es) => some (sz, es)
  | some (.ext (.fx _ sz es)) => some (sz, es)
  | _ => none

inductive isRow (sz : Nat) (es : List (List C)) : Res → Prop where
  | sl (T : TypeId) : isRow sz es (.sl T sz es)
  | ro (o : Obj) (T : TypeId) : isRow sz es (.ro o T sz es)
  | fx (T : TypeId) : isRow sz es (.ext (.fx T sz es))

theorem rowRes_is {mem : Mem} {r sz : Nat} {es : List (List C)} (h : rowRes mem r = some (sz, es)) : ∃ R, look mem r = some R ∧ isRow sz es R := by
  unfold rowRes at h
  split at h
  · rename_i hl; simp only [Option.some.injEq, Prod.mk.injEq] at h; obtain ⟨rfl, rfl⟩ := h; exact ⟨_, hl, .sl _⟩
  · rename_i hl; simp only [Option.some.injEq, Prod.mk.injEq] at h; obtain ⟨rfl, rfl⟩ := h; exact ⟨_, hl, .ro _ _⟩
  · rename_i hl; simp only [Option.some.injEq, Prod.mk.injEq] at h; obtain ⟨rfl, rfl⟩ := h; exact ⟨_, hl, .fx _⟩
  · cases h

theorem isRow.rn {sz : Nat} {es : List (List C)} {R : Res} (h : isRow sz es R) {ρ : Nm} {r : Nat} {w : World} {F : Nat → Prop} (hR : R.holds ρ r w F) : ρ.rn r = es.length := by
  cases h with
  | sl T => exact hR.2.1
  | ro o T => exact hR.2.1
  | fx T => exact hR.2.1

def lenOf (mem : Mem) : C → Option Int
  | .str l => some (l.length : Int)
  | .sl r => match look mem r with
    | some (.sl _ _ es) => some (es.length : Int)
    | some (.ro _ _ _ es) => some (es.length : Int)
    | some (.ext (.fx _ _ es)) => some (es.length : Int)
    | some (.ext (.nest _ _ _ ess _)) => some (ess.length : Int)
    | _ => none
  | .sub _ _ _ len => some (len : Int)
  | .val (.slice _ n _) => some (n : Int)
  | _ => none

def tyOffs (tt : Ty) (T : TypeId) (f : Nat) : Option Nat := match look tt T with
  | some ⟨.struct l, _, _, _, _⟩ => match l[f]? with
    | some (o, _) => some o
    | none => none
  | _ => none

def tySlice (tt : Ty) (T : TypeId) : Bool := match look tt T with
  | some ⟨.slice _, _, _, _, _⟩ => true
  | _ => false

def lenTy (tt : Ty) (T : TypeId) : C → Bool
  | .str _ => tyStr tt T
  | _ => tySlice tt T

def pv (tt : Ty) (env : Env) (mem : Mem) : Op → Option E
  | .move x => ev env x
  | .assign x => ev env x
  | .binOp op T x y _ => match ev env x, ev env y with
    | some (.v (.c a)), some (.v (.c b)) => match cmpOp tt op T a b with
      | some r => some (.v (.c (.bool r)))
      | none => none
    | _, _ => none
  | .unOp .not _ x => match ev env x with
    | some (.v (.c (.bool b))) => some (.v (.c (.bool (!b))))
    | _ => none
  | .extract x i => match ev env x with
    | some (.tup l) => match l[i]? with
      | some v => some (.v v)
      | none => none
    | _ => none
  | .nilCheck x => match ev env x with
    | some (.v (.c (.ptr r o))) => some (.v (.c (.ptr r o)))
    | some (.v (.c (.el r i sz o))) => some (.v (.c (.el r i sz o)))
    | some (.v (.c (.fn f l))) => some (.v (.c (.fn f l)))
    | _ => none
  | .makeFunc (.func f) first caps => match first.toList with
    | [] => match capsOf env caps.toList with
      | some l => some (.v (.c (.fn f l)))
      | none => none
    | _ => none
  | .fieldAddr T x f => match ev env x with
    | some (.v (.c (.ptr r o))) => match tyOffs tt T f with
      | some k => some (.v (.c (.ptr r (o + k))))
      | none => none
    | some (.v (.c (.el r i sz o))) => match tyOffs tt T f with
      | some k => some (.v (.c (.el r i sz (o + k))))
      | none => none
    | _ => none
  | .call ⟨.builtin .len, args, tys⟩ => match args.toList, tys.toList with
    | [x], [T] => match ev env x with
      | some (.v (.c c)) => match lenOf mem c, lenTy tt T c with
        | some n, true => some (.v (.c (.int .i64 n)))
        | _, _ => none
      | _ => none
    | _, _ => none
  | _ => none

theorem Addr.add_add' (a : Addr) (m k : Nat) : (a.add m).add k = a.add (m + k) := by
  unfold Addr.add
  by_cases h1 : m = 0
  · simp [h1]
  · by_cases h2 : k = 0
    · simp [h2]
    · simp [h1, h2, Nat.add_assoc]

theorem pv_run {P : Program} {tt : Ty} (ht : TyOk P tt) {N : Nat} {ρ : Nm} {env : Env} {mem : Mem} {a : Act} {w : World} {F : Nat → Prop} {o : Oper} {e : E}
    (hA : SatA N ρ env a) (hM : MemSat ρ mem w F) (h : pv tt env mem o.op = some e) : (execOp a.eval o).run P w = .ok (.value (e.den ρ)) w := by
  unfold execOp
  generalize ho : o.op = op at h
  cases op <;> simp only [pv, reduceCtorEq] at h
  case move x => simp [ev_den hA h]
  case assign x => simp [ev_den hA h]
  case binOp op T x y yt =>
    split at h
    · rename_i ca cb hx hy
      split at h
      · rename_i r hr
        obtain rfl := Option.some.inj h
        have := cmp_run ht x y ρ w hr
        simp only [ev_den hA hx, ev_den hA hy, E.den, V.den]
        simp only [Sem.run_bind] at this ⊢
        rw [this]
        rfl
      · cases h
    · cases h
  case unOp op T x =>
    cases op <;> simp only [pv, reduceCtorEq] at h
    split at h
    · rename_i b hx
      obtain rfl := Option.some.inj h
      simp only [ev_den hA hx, E.den, V.den, C.den]
      simp [go_sem]
    · cases h
  case extract x i =>
    split at h
    · rename_i l hx
      split at h
      · rename_i v hv
        obtain rfl := Option.some.inj h
        simp [ev_den hA hx, E.den, Instr.extract, hv]
      · cases h
    · cases h
  case nilCheck x =>
    split at h
    · rename_i r p hx; obtain rfl := Option.some.inj h; simp [ev_den hA hx, E.den, V.den, C.den]
    · rename_i r p q t hx; obtain rfl := Option.some.inj h; simp [ev_den hA hx, E.den, V.den, C.den]
    · rename_i f l hx; obtain rfl := Option.some.inj h; simp [ev_den hA hx, E.den, V.den, C.den]
    · cases h
  case makeFunc fn first caps =>
    cases fn <;> simp only [pv, reduceCtorEq] at h
    split at h
    · rename_i hf
      split at h
      · rename_i l hl
        obtain rfl := Option.some.inj h
        have hc := capsOf_den hA hl
        have hf' : first = #[] := Array.toList_eq_nil_iff.1 hf
        have hc' : caps.map a.eval = (l.map fun r => Value.pointer (some ⟨ρ.adr r, 0, none⟩)).toArray := by
          rw [← hc, ← Array.toList_map]
        simp [E.den, V.den, C.den, Instr.makeFunc, hf', hc']
      · cases h
    · cases h
  case fieldAddr T x f =>
    have key : ∀ k (ad : Addr), tyOffs tt T f = some k → a.eval x = .pointer (some ad) → (Instr.fieldAt T (a.eval x) f).run P w = .ok (.pointer (some (ad.add k))) w := by
      intro k ad hk hx
      unfold tyOffs at hk
      split at hk
      · rename_i l _ _ _ _ hl
        split at hk
        · rename_i o' s' hk'
          obtain rfl := Option.some.inj hk
          obtain ⟨fs, hu, hn, hf⟩ := (ht.get hl).kind
          obtain ⟨fl, j, h1, h2, h3, h4, h5⟩ := hf f o' s' hk'
          subst h4
          simp [Instr.fieldAt, run_underlying hu, h1, hx, Instr.sureAddr, fieldPlace, sizeOf, typeInfo, h3, h5, h2]
        · cases hk
      · cases hk
    split at h
    · rename_i r p hx
      split at h
      · rename_i k hk
        obtain rfl := Option.some.inj h
        have := key k ⟨ρ.adr r, p, none⟩ hk (ev_den hA hx)
        simp [this, E.den, V.den, C.den, Addr.add]
      · cases h
    · rename_i r p q t hx
      split at h
      · rename_i k hk
        obtain rfl := Option.some.inj h
        have := key k (((ρ.rb r).getD ⟨0, 0, none⟩).add (p * q + t)) hk (ev_den hA hx)
        simp only [Sem.run_bind, this, Result.andThen_ok, Sem.run_pure, E.den, V.den, C.den]
        rw [← Nat.add_assoc, Addr.add_add', Nat.add_assoc]
      · cases h
    · cases h
  case call c =>
    obtain ⟨callee, args, tys⟩ := c
    cases callee <;> try simp only [pv, reduceCtorEq] at h
    case builtin b =>
      cases b <;> try simp only [pv, reduceCtorEq] at h
      case len =>
        split at h
        · rename_i x T hxs hts
          have hargs : args = #[x] := Array.toList_inj.1 hxs
          have htys : tys = #[T] := Array.toList_inj.1 hts
          subst hargs htys
          split at h
          · rename_i cc hx
            split at h
            · rename_i n hl hty
              obtain rfl := Option.some.inj h
              simp only [resolve, invoke, builtin, Sem.run_bind, Sem.run_pure, Result.andThen_ok, List.map_toArray, List.map_cons, List.map_nil, ev_den hA hx, E.den, V.den]
              have hS : lenTy tt T cc = tySlice tt T → ∃ e, P.underlying T = some (.slice e) := by
                intro heq
                rw [heq] at hty
                unfold tySlice at hty
                split at hty
                · rename_i e _ _ _ _ hl'; exact ⟨e, (ht.get hl').kind⟩
                · cases hty
              cases cc <;> simp only [lenOf, reduceCtorEq] at hl
              case str l =>
                obtain rfl := Option.some.inj hl
                have hu : P.underlying T = some .string := by
                  simp only [lenTy, tyStr] at hty
                  split at hty
                  · rename_i hl'; exact (ht.get hl').kind
                  · cases hty
                simp [C.den, Builtin.len_, run_underlying hu, goInt]
                rfl
              case val x =>
                cases x <;> simp only [lenOf, reduceCtorEq] at hl
                obtain rfl := Option.some.inj hl
                obtain ⟨e, hu⟩ := hS rfl
                simp [C.den, Builtin.len_, run_underlying hu, goInt]
              case sub r lo sz len =>
                obtain rfl := Option.some.inj hl
                obtain ⟨e, hu⟩ := hS rfl
                simp [C.den, Builtin.len_, run_underlying hu, goInt]
              case sl r =>
                obtain ⟨e, hu⟩ := hS rfl
                have hn : ((ρ.rn r : Nat) : Int) = n := by
                  split at hl
                  · rename_i T' sz' es hlk
                    obtain rfl := Option.some.inj hl
                    obtain ⟨F', hR, _⟩ := hM.get hlk
                    rw [hR.2.1]
                  · rename_i o' T' sz' es hlk
                    obtain rfl := Option.some.inj hl
                    obtain ⟨F', hR, _⟩ := hM.get hlk
                    rw [hR.2.1]
                  · rename_i T' sz' es hlk
                    obtain rfl := Option.some.inj hl
                    obtain ⟨F', hR, _⟩ := hM.get hlk
                    rw [hR.2.1]
                  · rename_i T' T2' sz' es hs' hlk
                    obtain rfl := Option.some.inj hl
                    obtain ⟨F', hR, _⟩ := hM.get hlk
                    rw [hR.1]
                  · cases hl
                simp [C.den, Builtin.len_, run_underlying hu, goInt, hn]
            · cases h
          · cases h
        · cases h

end Go.Proofs.YtaidpalamhmghaaDoor.X
