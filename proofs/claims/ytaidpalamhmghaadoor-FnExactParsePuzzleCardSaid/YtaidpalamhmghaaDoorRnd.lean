/- The walk in a round of a range over a function, and behind such a loop: what was shown of operations under the wide fence goes into a round; code is walked anew. No condition. -/
import Derived.Test.YtaidpalamhmghaaDoorDraw
import Derived.OrdersIn
import Derived.TacticsIn
import Derived.RangeFuncNested
import Derived.RangeFuncLeaves
namespace Go.Proofs.YtaidpalamhmghaaDoor.X
open Go.RowKit
set_option linter.unusedVariables false
set_option linter.unusedSimpArgs false

def FW (ro : Option Nat) : Fence := { Fence.wide with round := ro }

theorem FW_calls {ro : Option Nat} {n : Nat} {P : Program} {f : FuncId} {args : Array Value} {w : World} {R : Ending → World → Prop} : CallsIn (FW ro) n P f args w R ↔ CallsIn Fence.wide n P f args w R := ⟨fun h => h, fun h => h⟩

theorem FW_room {ro : Option Nat} (n : Nat) : (FW ro).room n := room_wide n

def shA (ds : List Deferred) (a : Act) : Act := { a with defers := a.defers ++ ds }
theorem shA_put (ds : List Deferred) (a : Act) (dst : Option Tmp) (v : Value) : (shA ds a).put dst v = shA ds (a.put dst v) := by cases dst <;> rfl
theorem shA_eval (ds : List Deferred) (a : Act) : (shA ds a).eval = a.eval := funext fun x => by cases x <;> rfl
theorem shA_tmps (ds : List Deferred) (a : Act) : (shA ds a).tmps = a.tmps := rfl

def shN (ds : List Deferred) (K : Act → World → Prop) : Act → World → Prop := fun a w => ∃ a0, a = shA ds a0 ∧ K a0 w
def shQ (ds : List Deferred) (Q : Exit → Act → World → Prop) : Exit → Act → World → Prop := fun e a w => ∃ a0, a = shA ds a0 ∧ Q e a0 w

section
variable {P : Program} {ro : Option Nat} {n : Nat} {ds : List Deferred} {ops : Array Oper} {Q : Exit → Act → World → Prop}

def ndOp (o : Oper) : Bool := match o.op with
  | .defer _ => false
  | _ => true
theorem ndOp_ne {o : Oper} (h : ndOp o = true) (c : Call) : o.op ≠ .defer c := fun e => by simp [ndOp, e] at h

theorem conv_op {o : Oper} (hnd : ndOp o = true) {a : Act} {w : World} {next : Act → World → Prop} (h : o.wp P a w next Q) : o.wpIn (FW ro) n P (shA ds a) w (shN ds next) (shQ ds Q) := by
  refine ⟨fun _ _ => trivial, ?_⟩
  rw [Oper.semAt_eq _ _ _ (ndOp_ne hnd), shA_eval]
  unfold Oper.wp at h
  generalize (execOp a.eval o).run P w = r at *
  have nd : ∀ m : Nat, (FW ro).depth.isSome = true → 1 ≤ m := fun m h => by simp [FW, Fence.wide] at h
  cases r with
  | ok x w' =>
    cases x with
    | value v => exact ⟨_, shA_put _ _ _ _, h⟩
    | skip => exact ⟨_, shA_put _ _ _ _, h⟩
    | defer d => exact ⟨({ a with defers := d :: a.defers } : Act).put o.dst undef, shA_put ds { a with defers := d :: a.defers } _ _, h⟩
    | enter f args =>
      refine ⟨nd n, FW_calls.2 (callsIn_wide.2 (Calls.mono h fun e w'' he => ?_))⟩
      cases e with
      | returned v => exact ⟨_, shA_put _ _ _ _, he⟩
      | panicked c => exact ⟨_, rfl, he⟩
      | outgrown => obtain ⟨a0, w0, hq⟩ := he; exact ⟨_, w0, a0, rfl, hq⟩
    | row row args =>
      refine ⟨nd n, fun c cs _ => ?_⟩
      obtain ⟨v, w'', hr, hs⟩ := h c cs
      exact ⟨v, w'', ⟨_, shA_put _ _ _ _, hr⟩, (stepsIn_wide.2 hs : _)⟩
    | _ => exact h.elim
  | halt x w' =>
    cases x with
    | panic v => exact ⟨_, rfl, h⟩
    | _ => exact h.elim

theorem conv_list (hL : ¬ LetsOut Q) : ∀ (rest : List Oper) (a : Act) (w : World), (rest.all ndOp) = true → wpList P ops Q rest a w → wpListIn (FW ro) n P ops (shQ ds Q) rest (shA ds a) w
  | [], a, w, _, h => ⟨a, rfl, h⟩
  | o :: rest, a, w, hnd, h => by
    simp only [List.all_cons, Bool.and_eq_true] at hnd
    unfold wpList at h
    unfold wpListIn
    rw [shA_tmps]
    split at h
    · rename_i hw
      rw [if_pos hw]
      rcases h with h | h
      · exact Oper.wpIn_mono (fun a' w' ⟨a0, e, h'⟩ => by subst e; exact conv_list hL rest a0 w' hnd.2 h') (conv_op hnd.1 h)
      · exact absurd h.2 hL
    · rename_i hw
      rw [if_neg hw]
      refine ⟨fun _ _ => trivial, ?_⟩
      rw [shA_put]
      exact conv_list hL rest _ w hnd.2 h

theorem ndAll {i : Nat} {o : Oper} (h : (ops.toList.all ndOp) = true) (hi : ops[i]? = some o) : ndOp o = true :=
  List.all_eq_true.1 h o (by rw [← Array.getElem?_toList] at hi; exact List.mem_of_getElem? hi)

theorem conv_wpOp (hL : ¬ LetsOut Q) (hnd : (ops.toList.all ndOp) = true) {i : Nat} {K : Act → World → Prop} {a : Act} {w : World} (h : wpOp P ops Q i K a w) : wpOpIn (FW ro) n P ops (shQ ds Q) i (shN ds K) (shA ds a) w := by
  unfold wpOp at h
  unfold wpOpIn
  cases ho : ops[i]? with
  | none => simp only [ho] at h ⊢; exact ⟨_, rfl, h⟩
  | some o =>
    simp only [ho] at h ⊢
    rw [shA_tmps]
    split at h
    · rename_i hw
      rw [if_pos hw]
      rcases h with h | h
      · exact conv_op (ndAll hnd ho) h
      · exact absurd h.2 hL
    · rename_i hw
      rw [if_neg hw]
      exact ⟨fun _ _ => trivial, _, shA_put _ _ _ _, h⟩

theorem conv_any (hL : ¬ LetsOut Q) (hnd : (ops.toList.all ndOp) = true) (md : Region.Mode) : ∀ (fuel : Nat) (listed : Array Bool) (a : Act) (w : World), wpAny P md ops Q fuel listed a w → wpAnyIn (FW ro) n P md ops (shQ ds Q) fuel listed (shA ds a) w
  | 0, listed, a, w, h => ⟨h.1, a, rfl, h.2⟩
  | fuel + 1, listed, a, w, h => ⟨fun e => ⟨a, rfl, h.1 e⟩, fun i hi => wpOpIn_mono (fun a' w' ⟨a0, e, h'⟩ => by subst e; exact conv_any hL hnd md fuel _ a0 w' h') (conv_wpOp hL hnd (h.2 i hi))⟩

/-- What a region ends in: off its end, alone. -/
def offEnd (K : Act → World → Prop) : Exit → Act → World → Prop
  | .normal, a, w => K a w
  | _, _, _ => False
theorem offEnd_out (K : Act → World → Prop) : ¬ LetsOut (offEnd K) := fun ⟨_, _, h⟩ => h
theorem offEnd_sh {K : Act → World → Prop} {R : Exit → Act → World → Prop} (h : ∀ a w, K a w → R .normal (shA ds a) w) : ∀ e a w, shQ ds (offEnd K) e a w → R e a w := fun e a w ⟨a0, e1, h0⟩ => by
  cases e with
  | normal => subst e1; exact h a0 w h0
  | _ => exact h0.elim
end


/-! ### Regions -/
def ndR (ops : Array Oper) : Bool := ops.toList.all ndOp

section
variable {P : Program} {tt : Ty} {N : Nat}

theorem wplR_sound {x : Cx} (ht : TyOk P tt) {ops : Array Oper} {k : St → Prop} {ro : Option Nat} {n : Nat} {ds : List Deferred} {Q : Exit → Act → World → Prop} {id : Nat} (hnd : ndR ops = true)
    {st : St} {ρ : Nm} {a : Act} {w : World} (h : wpl P tt N x.D0 ops k ops.toList st) (hA : SatA N ρ st.env a) (hW : SatW x ρ st.mem w)
    (hk : ∀ st' ρ' a' w', k st' → SatA N ρ' st'.env a' → SatW x ρ' st'.mem w' → Q .normal (shA ds a') w') : (Code.region id ops false).wpIn (FW ro) n P Q (shA ds a) w := by
  have h1 := wpl_sound (x := x) (N := N) (Q := offEnd fun a' w' => Q .normal (shA ds a') w') ht hk ops.toList st ρ a w h hA hW
  exact wpIn_mono (wpIn_region_list (conv_list (ds := ds) (ro := ro) (n := n) (offEnd_out _) _ _ _ hnd h1)) (offEnd_sh fun a w h => h)

/-- A region whose order is open, in a round. -/
structure DrawIn (P : Program) (N : Nat) (D0 : List Nat) (id : Nat) (ops : Array Oper) (st : St) (k : St → Prop) : Prop where
  make ::
  out : ∀ (ro : Option Nat) (n : Nat) (ds : List Deferred) (x : Cx) (ρ : Nm) (a : Act) (w : World) (Q : Exit → Act → World → Prop), x.D0 = D0 → SatA N ρ st.env a → SatW x ρ st.mem w →
    (∀ st' ρ' a' w', k st' → SatA N ρ' st'.env a' → SatW x ρ' st'.mem w' → Q .normal (shA ds a') w') → (Code.region id ops true).wpIn (FW ro) n P Q (shA ds a) w

theorem DrawIn.tree {D0 : List Nat} {id : Nat} {ops : Array Oper} {env : Env} {mem M1 M2 : Mem} {k : St → Prop} (ht : TyOk P tt) (pn : List Nat) (t : Tr) (hm : P.follows .mixedOrders = true)
    (hok : (Region.noSelect ops && okT ops t (Array.replicate ops.size false) [] && Nat.ble (depthT t) ops.size) = true) (hnd : ndR ops = true)
    (hp : pickL mem pn = some (M1, M2))
    (h : treex P tt N (memCell M1 ++ D0) ops M1 k t ⟨env, M2⟩) : DrawIn P N D0 id ops ⟨env, mem⟩ k := by
  constructor
  intro ro n ds x ρ a w Q hx hA hW hk
  simp only [Bool.and_eq_true] at hok
  obtain ⟨⟨hs, hok⟩, hdep⟩ := hok
  have hW' := (hW.drewW).perm (pickL_perm hp)
  obtain ⟨F, hF, hF0⟩ := hW'.mem
  let x' : Cx := ⟨{ w with drawn := w.drawn + 1 }, F, ρ, memCell M1 ++ D0⟩
  have hst : SatW x' ρ (M1 ++ M2) { w with drawn := w.drawn + 1 } := ⟨⟨F, hF, fun b hb => .inl hb⟩, rfl, rfl, rfl, Nat.le_refl _, fun _ _ _ => rfl, fun r _ => Nm.agree.refl ρ r⟩
  have := (treex_sound (x := x') (Q := offEnd fun a' w' => Q .normal (shA ds a') w') ht hs (fun c a w h => h) (fun r hr => List.mem_append_left _ hr) (fun st' ρ' a' w' h1 h2 h3 =>
    hk st' ρ' a' w' h1 h2 (hW'.restart hF0 h3 fun r hr => by rw [hx] at hr; exact List.mem_append_right _ hr)) t [] _ ⟨env, M2⟩ ρ a _ hok h hA hst).2 rfl ops.size (Nat.le_of_ble_eq_true hdep)
  exact wpIn_mono (wpIn_region_any hm (conv_any (ds := ds) (ro := ro) (n := n) (offEnd_out _) hnd .any _ _ _ _ (wpAny_of_held _ _ _ _ this))) (offEnd_sh fun a w h => h)
end

/-! ### A range over a function -/
/-- The function that is ranged over, its captured boxes IB: it hands xs to yield, one by one, and returns; it turns nothing but IB's blocks. -/
structure IterOk (P : Program) (gf : FuncId) (capn : List Nat) (IB : Mem) (xs : List V) : Prop where
  make ::
  out : ∀ (ρ : Nm) (l n : Nat) (W : World) (F : Nat → Prop) (J : Nat → World → Prop), MemSat ρ IB W F →
    (∀ i w w', J i w → w.heap.size ≤ w'.heap.size → (∀ b, b < w.heap.size → ¬ F b → w'.heap[b]? = w.heap[b]?) → w'.os = w.os → w'.tape = w.tape → w'.output = w.output → J i w') →
    (∀ i x w m, xs[i]? = some x → J i w → YieldAt Fence.wide m P l #[x.den ρ] w fun e w' => e = .returned (.bool true) ∧ J (i + 1) w' ∧ ∀ b, F b → w'.heap[b]? = w.heap[b]?) →
    J 0 W →
    CallsIn Fence.wide n P gf (#[.func (.yield l) #[] #[]] ++ (capn.map fun b => Value.pointer (some ⟨ρ.adr b, 0, none⟩)).toArray) W fun e w' => (∃ v, e = .returned v) ∧ J xs.length w'

def envNames (env : Env) : List Nat := env.flatMap fun p => p.2.names

def MSub (D : List Nat) (m m' : Mem) : Prop := ∀ x ρ w, x.D0 = D → SatW x ρ m w → ∃ ρ', SatW x ρ' m' w

theorem MSub.mk {D : List Nat} {m m' : Mem} (σ : List (Nat × Nat)) (rest : Mem) (hmem : pickL m (memNames (renM σ m')) = some (renM σ m', rest)) (hD : (D.all fun r => (look σ r).isNone) = true) : MSub D m m' :=
  fun x ρ w hx hW => ⟨ρ.comp σ, SatW.ren (hx ▸ hD) (hW.perm (pickL_perm hmem)).drop⟩

structure RngVC (P : Program) (N : Nat) (D0 : List Nat) (g : Operand) (ps : Array Tmp) (ia ib : List Nat → WK) (s : St) (K : Exit → St → Prop) : Prop where
  make ::
  out : ∃ (gf : FuncId) (capn : List Nat) (IB rest : Mem) (xs : List V) (M : Nat → Mem) (p : Tmp),
    ev s.env g = some (.v (.c (.fn gf capn))) ∧ ps = #[p] ∧ dstOk N (some p) = true ∧ FnOk P gf ∧ s.mem.Perm (IB ++ rest) ∧ IterOk P gf capn IB xs ∧ (∀ x ∈ xs, x.names = []) ∧
    MSub (envNames s.env ++ D0) rest (M 0) ∧
    (∀ i x, xs[i]? = some x → ∃ K1 K2 : Exit → St → Prop, ia (envNames s.env ++ D0) ⟨(p, .v x) :: s.env, M i⟩ K1 ∧ (∀ e s1, K1 e s1 → e = .normal ∧ ib (envNames s.env ++ D0) s1 K2) ∧
      ∀ e s2, K2 e s2 → e = .normal ∧ MSub (envNames s.env ++ D0) s2.mem (M (i + 1))) ∧
    K .normal ⟨s.env, M xs.length⟩

@[reducible] def wpxR (P : Program) (tt : Ty) (N : Nat) (c : Code) : List Nat → WK :=
  Code.rec (motive := fun _ => List Nat → WK)
    (fun _ s K => K .normal s)
    (fun id ops draw D0 s K => match draw with
      | false => wpl P tt N D0 ops (K .normal) ops.toList s
      | true => DrawIn P N D0 id ops s (K .normal))
    (fun _ _ a b D0 s K => a D0 s (thenK (fun s' => b D0 s' K) K))
    (fun c _ _ t e D0 s K => match s with | ⟨env, mem⟩ => condW c (t D0) (e D0) env mem K)
    (fun id _ b D0 s K => b D0 s (blockK id K))
    (fun _ _ _ _ _ => False)
    (fun g ps _ _ ia ib D0 s K => RngVC P N D0 g ps ia ib s K)
    (fun id _ s K => K (.exit id) s)
    (fun _ _ _ _ _ => False)
    (fun _ _ s K => K .normal s)
    (fun _ _ _ _ => False)
    (fun _ s K => K .ret s)
    (fun _ _ _ _ => False) c

/-- No 'defer' statement. -/
def okR : Code → Bool
  | .region _ ops _ => ndR ops
  | .seq a b => okR a && okR b
  | .cond _ a b => okR a && okR b
  | .block _ b => okR b
  | .loop b => okR b
  | .rangeFunc _ _ a b => okR a && okR b
  | .scope b => okR b
  | _ => true

/-- The record of the loop in whose round we are. -/
def ROk (x : Cx) : Option Nat → Prop
  | none => True
  | some l => l < x.w0.heap.size ∧ ¬ x.F0 l ∧ ∃ r, x.w0.heap[l]? = some (.loop r)

def markD (D : Nat) : Deferred := { target := .collected D, args := #[] }
/-- The blocks for rounds' deferred calls that the activation has marked. -/
def DOk (B : Nat) (x : Cx) (ds : List Deferred) : Prop := B ≤ x.w0.heap.size ∧ ∃ Ds : List Nat, ds = Ds.map markD ∧ Ds.Nodup ∧ ∀ D ∈ Ds, B ≤ D ∧ D < x.w0.heap.size ∧ ¬ x.F0 D ∧ x.w0.heap[D]? = some (.deferred (some []))

theorem DOk.nil (x : Cx) : DOk 0 x [] := ⟨Nat.zero_le _, [], rfl, .nil, fun _ h => by cases h⟩

structure ExtC (x x' : Cx) : Prop where
  d0 : x'.D0 = x.D0
  size : x.w0.heap.size ≤ x'.w0.heap.size
  f0 : ∀ b, x'.F0 b → x.F0 b ∨ x.w0.heap.size ≤ b
  sat : ∀ ρ m w, SatW x' ρ m w → SatW x ρ m w

theorem ExtC.refl (x : Cx) : ExtC x x := ⟨rfl, Nat.le_refl _, fun _ h => .inl h, fun _ _ _ h => h⟩
theorem ExtC.trans {x y z : Cx} (h : ExtC x y) (g : ExtC y z) : ExtC x z := ⟨g.d0.trans h.d0, Nat.le_trans h.size g.size, fun b hb => by
  rcases g.f0 b hb with h' | h'
  · exact h.f0 b h'
  · exact .inr (Nat.le_trans h.size h'), fun ρ m w hh => h.sat _ _ _ (g.sat _ _ _ hh)⟩


section
variable {P : Program} {tt : Ty} {N : Nat}

theorem envNames_mem {env : Env} {p : Nat × E} (hp : p ∈ env) {r : Nat} (hr : r ∈ p.2.names) : r ∈ envNames env := List.mem_flatMap.2 ⟨p, hp, hr⟩

/-- A statement of wpxR_sound for one code. -/
def SoundR (P : Program) (tt : Ty) (N : Nat) (c : Code) : Prop := ∀ {ro : Option Nat} {n : Nat} {D0 : List Nat} {K : Exit → St → Prop} {Q : Exit → Act → World → Prop} {st : St} {ρ : Nm} {a : Act} {w : World} {x : Cx} {ds : List Deferred} {B : Nat},
  okR c = true → wpxR P tt N c D0 st K → x.D0 = D0 → ROk x ro → DOk B x ds → SatA N ρ st.env a → SatW x ρ st.mem w →
  (∀ e st' ρ' a' w' x' ds', K e st' → ExtC x x' → ROk x' ro → DOk B x' ds' → (ro ≠ none → ds' = ds) → SatA N ρ' st'.env a' → SatW x' ρ' st'.mem w' → Q e (shA ds' a') w') → c.wpIn (FW ro) n P Q (shA ds a) w

theorem heap_lt {w : World} {b : Nat} {o : Obj} (h : w.heap[b]? = some o) : b < w.heap.size := (Array.getElem?_eq_some_iff.1 h).1

theorem rng_sound {g : Operand} {ps : Array Tmp} {ca cb : Code} (iha : SoundR P tt N ca) (ihb : SoundR P tt N cb) : SoundR P tt N (.rangeFunc g ps ca cb) := by
  intro ro n D0 K Q st ρ a w x ds B hok h hx hro hdo hA hW hk
  simp only [okR, Bool.and_eq_true] at hok
  replace h : RngVC P N D0 g ps (wpxR P tt N ca) (wpxR P tt N cb) st K := h
  obtain ⟨gf, capn, IB, rest, xs, M, p, hg, hps, hpd, hfn, hperm, hit, hxs, hM0, hround, hK⟩ := h.out
  subst hps
  obtain ⟨F, hF, hF0⟩ := (hW.perm hperm).mem
  obtain ⟨FI, FR, hFF, hdis, hMI, hMR⟩ := MemSat.append.1 hF
  have hFIlt : ∀ b, FI b → b < w.heap.size := fun b hb => hMI.lt hb
  have hFRlt : ∀ b, FR b → b < w.heap.size := fun b hb => hMR.lt hb
  let D0' := envNames st.env ++ D0
  have hgv : (shA ds a).eval g = .func (.func gf) #[] (capn.map fun b => Value.pointer (some ⟨ρ.adr b, 0, none⟩)).toArray := by
    rw [shA_eval, ev_den hA hg]; rfl
  have nd : ∀ m : Nat, (FW ro).depth.isSome = true → 1 ≤ m := fun m h => by simp [FW, Fence.wide] at h
  have eg : ∀ args w, (callFunc gf args).run P w = .ok (.enter gf args) w := fun args w => by
    obtain ⟨f0, hfn0, hname, hbody⟩ := hfn
    simp only [callFunc, Sem.run_bind, Sem.run_pure, run_program, Result.andThen_ok, hfn0, hname, hbody, Bool.false_eq_true, if_false]
  -- WHAT FOLLOWS FROM THE LOOP's ENTRY
  have key : ∀ (fn l : Nat) (mD : List Nat) (W1 : World) (df : Nat) (rec : LoopState → Option Code → Loop),
      rec = (fun st pe => { state := st, pending := pe, fn, tmps := a.tmps, params := #[p], assign := ca, body := cb, defers := df }) →
      w.heap.size ≤ l → W1.heap[l]? = some (.loop (rec .ready none)) → (∀ b, b < w.heap.size → W1.heap[b]? = w.heap[b]?) → w.heap.size ≤ W1.heap.size →
      W1.os = w.os → W1.tape = w.tape → W1.output = w.output → mD.Nodup →
      (∀ D ∈ mD, w.heap.size ≤ D ∧ D ≠ l ∧ W1.heap[D]? = some (.deferred (some []))) → (ro ≠ none → mD = []) →
      CallsIn (FW ro) (n - 1) P gf (#[.func (.yield l) #[] #[]] ++ (capn.map fun b => Value.pointer (some ⟨ρ.adr b, 0, none⟩)).toArray) W1
        (rangePost (FW ro) n P l Q { shA ds a with defers := mD.map markD ++ (shA ds a).defers }) := by
    intro fn l mD W1 df rec hrec hlw hl1 hsame hsz hos htape hout hnod hmD hmro
    have hlt1 := heap_lt hl1
    let J : Nat → World → Prop := fun i W => W.heap[l]? = some (.loop (rec .ready none)) ∧ W1.heap.size ≤ W.heap.size ∧ W.os = W1.os ∧ W.tape = W1.tape ∧ W.output = W1.output ∧
      (∀ b, b < W1.heap.size → ¬ FR b → ¬ FI b → b ≠ l → W.heap[b]? = W1.heap[b]?) ∧
      ∃ ρ' F', MemSat ρ' (M i) W F' ∧ (∀ b, F' b → FR b ∨ W1.heap.size ≤ b) ∧ ∀ r ∈ D0', ρ.agree ρ' r
    have hFIl : ¬ FI l := fun hb => by have := hFIlt l hb; omega
    have hFRl : ¬ FR l := fun hb => by have := hFRlt l hb; omega
    have hMI1 : MemSat ρ IB W1 FI := hMI.frame fun b hb => hsame b (hFIlt b hb)
    have hMR1 : MemSat ρ rest W1 FR := hMR.frame fun b hb => hsame b (hFRlt b hb)
    have hx1 : SatW ⟨W1, FR, ρ, D0'⟩ ρ rest W1 := ⟨⟨FR, hMR1, fun b hb => .inl hb⟩, rfl, rfl, rfl, Nat.le_refl _, fun _ _ _ => rfl, fun r _ => .refl ρ r⟩
    obtain ⟨ρ1, hx1'⟩ := hM0 _ _ _ rfl hx1
    have hJ0 : J 0 W1 := by
      obtain ⟨F', h1, h2⟩ := hx1'.mem
      exact ⟨hl1, Nat.le_refl _, rfl, rfl, rfl, fun _ _ _ _ _ => rfl, ρ1, F', h1, h2, hx1'.agr⟩
    refine FW_calls.2 ?_
    refine CallsIn.mono (hit.out ρ l (n - 1) W1 FI J hMI1 ?_ ?_ hJ0) ?_
    · -- THE ITERATOR's OWN STEPS
      rintro i W W' ⟨h1, h2, h3, h4, h5, h6, ρ', F', h7, h8, h9⟩ hs hb ho ht ho'
      have hF'I : ∀ b, F' b → ¬ FI b := fun b hb' hi => by
        rcases h8 b hb' with h | h
        · exact hdis b hi h
        · have := hFIlt b hi; omega
      refine ⟨(hb l (heap_lt h1) hFIl).trans h1, Nat.le_trans h2 hs, ho.trans h3, ht.trans h4, ho'.trans h5, fun b q1 q2 q3 q4 => (hb b (by omega) q3).trans (h6 b q1 q2 q3 q4), ρ', F', h7.frame fun b hb' => hb b (h7.lt hb') (hF'I b hb'), h8, h9⟩
    · -- ONE ROUND
      rintro i v W m hi ⟨h1, h2, h3, h4, h5, h6, ρ', F', h7, h8, h9⟩
      obtain ⟨K1, K2, hwa, hwb, hend⟩ := hround i v hi
      have hF'I : ∀ b, F' b → ¬ FI b := fun b hb' hi => by
        rcases h8 b hb' with h | h
        · exact hdis b hi h
        · have := hFIlt b hi; omega
      have hF'l : ¬ F' l := fun hb => by
        rcases h8 l hb with h | h
        · exact hFRl h
        · omega
      have hy := run_yield (P := P) (args := #[v.den ρ]) h1 (by rw [hrec]; rfl)
      rw [hrec] at hy
      refine ⟨fn, _, ca, cb, hy, roundIn_of_wpIn (F := Fence.wide) trivial ?_⟩
      clear hy
      let xa : Cx := ⟨W, F', ρ', D0'⟩
      have hxa : SatW xa ρ' (M i) W := ⟨⟨F', h7, fun b hb => .inl hb⟩, rfl, rfl, rfl, Nat.le_refl _, fun _ _ _ => rfl, fun r _ => .refl ρ' r⟩
      have hAa : SatA N ρ' ((p, .v v) :: st.env) (a.put (some p) (v.den ρ)) := by
        have e : v.den ρ = (E.v v).den ρ' := V.den_plain (hxs v (List.mem_of_getElem? hi)) ρ ρ'
        rw [e]
        exact (hA.congr fun q hq r hr => h9 r (List.mem_append_left _ (envNames_mem hq hr))).put hpd (.v v)
      have ea : ({ tmps := ((#[p] : Array Tmp).zip #[v.den ρ]).foldl (fun tmps (t, a) => tmps.setIfInBounds t a) a.tmps, defers := [] } : Act) = shA [] (a.put (some p) (v.den ρ)) := by
        simp [shA, Act.put, hA.dfr]
      show ca.wpIn (FW (some l)) m P _ ({ tmps := ((#[p] : Array Tmp).zip #[v.den ρ]).foldl (fun tmps (t, a) => tmps.setIfInBounds t a) a.tmps, defers := [] } : Act) W
      rw [ea]
      refine iha hok.1 hwa (x := xa) rfl ⟨heap_lt h1, hF'l, _, h1⟩ (DOk.nil _) hAa hxa ?_
      intro e s1 ρ1 a1 w1 x1 ds1 hK1 hext1 hro1 hdo1 hds1 hA1 hW1
      obtain ⟨rfl, hwb⟩ := hwb e s1 hK1
      obtain rfl := hds1 (by simp)
      have hWa := hext1.sat _ _ _ hW1
      have hl2 : w1.heap[l]? = some (.loop (rec .ready none)) := (hWa.keep l (heap_lt h1) hF'l).trans h1
      refine ⟨_, run_beginRound hl2 (by rw [hrec]), ?_⟩
      obtain ⟨F1, hM1, hF1⟩ := hWa.mem
      have hF1l : ¬ F1 l := fun hb => by
        rcases hF1 l hb with h | h
        · exact hF'l h
        · have := heap_lt h1; exact absurd (show W.heap.size ≤ l from h) (by omega)
      have hsW : W.heap.size ≤ w1.heap.size := hWa.size
      obtain ⟨w2, hw2⟩ : ∃ w2, w1.putObj l (.loop { rec .ready none with state := .busy }) = w2 := ⟨_, rfl⟩
      rw [hw2]
      have hl2b : w2.heap[l]? = some (.loop { rec .ready none with state := .busy }) := by rw [← hw2]; exact World.putObj_heap_same (heap_lt hl2)
      have h2o : ∀ b, b ≠ l → w2.heap[b]? = w1.heap[b]? := fun b hb => by rw [← hw2]; exact World.putObj_heap_other hb
      have h2s : w2.heap.size = w1.heap.size := by rw [← hw2]; exact World.putObj_size
      have h2os : w2.os = w1.os ∧ w2.tape = w1.tape ∧ w2.output = w1.output := by rw [← hw2]; exact ⟨rfl, rfl, rfl⟩
      have hM2 : MemSat ρ1 s1.mem w2 F1 := hM1.frame fun b hb => h2o b fun e => hF1l (e ▸ hb)
      let xb : Cx := ⟨w2, F1, ρ1, D0'⟩
      have hxb : SatW xb ρ1 s1.mem w2 := ⟨⟨F1, hM2, fun b hb => .inl hb⟩, rfl, rfl, rfl, Nat.le_refl _, fun _ _ _ => rfl, fun r _ => .refl ρ1 r⟩
      refine ihb hok.2 hwb (ro := some l) (x := xb) rfl ⟨heap_lt hl2b, hF1l, _, hl2b⟩ (DOk.nil _) hA1 hxb ?_
      intro e s2 ρ2 a2 w3 x2 ds2 hK2 hext2 hro2 hdo2 hds2 hA2 hW2
      obtain ⟨rfl, hsub⟩ := hend e s2 hK2
      have hWb := hext2.sat _ _ _ hW2
      obtain ⟨ρ3, hW3⟩ := hsub xb ρ2 w3 rfl hWb
      have hl3 : w3.heap[l]? = some (.loop { rec .ready none with state := .busy }) := (hWb.keep l (heap_lt hl2b) hF1l).trans hl2b
      refine ⟨_, _, run_endRound none hl3, rfl, ?_, ?_⟩
      · obtain ⟨F3, hM3, hF3⟩ := hW3.mem
        have hF3l : ¬ F3 l := fun hb => by
          rcases hF3 l hb with h | h
          · exact hF1l h
          · have := heap_lt hl2b; exact absurd (show w2.heap.size ≤ l from h) (by omega)
        have hs3 : w2.heap.size ≤ w3.heap.size := hWb.size
        refine ⟨?_, ?_, ?_, ?_, ?_, ?_, ρ3, F3, hM3.frame fun b hb => World.putObj_heap_other fun e => hF3l (e ▸ hb), ?_, ?_⟩
        · rw [World.putObj_heap_same (heap_lt hl3)]; rw [hrec]; rfl
        · rw [World.putObj_size]; omega
        · exact (show w3.os = w2.os from hWb.os).trans (h2os.1.trans ((show w1.os = W.os from hWa.os).trans h3))
        · exact (show w3.tape = w2.tape from hWb.tape).trans (h2os.2.1.trans ((show w1.tape = W.tape from hWa.tape).trans h4))
        · exact (show w3.output = w2.output from hWb.output).trans (h2os.2.2.trans ((show w1.output = W.output from hWa.output).trans h5))
        · intro b q1 q2 q3 q4
          have nF' : ¬ F' b := fun hb => by
            rcases h8 b hb with h | h
            · exact q2 h
            · omega
          have nF1 : ¬ F1 b := fun hb => by
            rcases hF1 b hb with h | h
            · exact nF' h
            · exact absurd (show W.heap.size ≤ b from h) (by omega)
          rw [World.putObj_heap_other q4]
          exact (hWb.keep b (show b < w2.heap.size by omega) nF1).trans ((h2o b q4).trans ((hWa.keep b (show b < W.heap.size by omega) nF').trans (h6 b q1 q2 q3 q4)))
        · intro b hb
          rcases hF3 b hb with h | h
          · rcases hF1 b h with h' | h'
            · exact h8 b h'
            · exact .inr (Nat.le_trans h2 h')
          · have : w2.heap.size ≤ b := h
            exact .inr (by omega)
        · intro r hr
          exact (h9 r hr).trans ((hWa.agr r hr).trans (hW3.agr r hr))
      · intro b hb
        have hbW : b < W.heap.size := Nat.lt_of_lt_of_le (hFIlt b hb) (Nat.le_trans hsz h2)
        have hbl : b ≠ l := fun e => hFIl (e ▸ hb)
        have nF' : ¬ F' b := fun h => hF'I b h hb
        have nF1 : ¬ F1 b := fun h => by
          rcases hF1 b h with h' | h'
          · exact nF' h'
          · exact absurd (show W.heap.size ≤ b from h') (by omega)
        rw [World.putObj_heap_other hbl]
        exact (hWb.keep b (show b < w2.heap.size by omega) nF1).trans ((h2o b hbl).trans (hWa.keep b hbW nF'))
    · -- BEHIND THE ITERATOR
      rintro e W ⟨⟨v, rfl⟩, h1, h2, h3, h4, h5, h6, ρ', F', h7, h8, h9⟩
      refine ⟨none, _, by have := run_endLoop (P := P) h1 (by rw [hrec]; simp); rw [hrec] at this; exact this, ?_⟩
      obtain ⟨w4, hw4⟩ : ∃ w4, W.putObj l (.loop { rec .ready none with state := .exhausted }) = w4 := ⟨_, rfl⟩
      have hw4' := hw4
      rw [hrec] at hw4'
      show Q .normal _ (W.putObj l _)
      rw [hw4']
      have h4o : ∀ b, b ≠ l → w4.heap[b]? = W.heap[b]? := fun b hb => by rw [← hw4]; exact World.putObj_heap_other hb
      have h4s : w4.heap.size = W.heap.size := by rw [← hw4]; exact World.putObj_size
      have h4os : w4.os = W.os ∧ w4.tape = W.tape ∧ w4.output = W.output := by rw [← hw4]; exact ⟨rfl, rfl, rfl⟩
      have hF'l : ¬ F' l := fun hb => by
        rcases h8 l hb with h | h
        · exact hFRl h
        · omega
      have hM4 : MemSat ρ' (M xs.length) w4 F' := h7.frame fun b hb => h4o b fun e => hF'l (e ▸ hb)
      have nF : ∀ b, b < x.w0.heap.size → ¬ x.F0 b → ¬ FR b ∧ ¬ FI b ∧ ¬ F' b ∧ b ≠ l := fun b hb hn => by
        have hxs' := hW.size
        have n1 : ¬ F b := fun h => by
          rcases hF0 b h with h | h
          · exact hn h
          · omega
        refine ⟨fun h => n1 ((hFF b).2 (.inr h)), fun h => n1 ((hFF b).2 (.inl h)), fun h => ?_, by omega⟩
        rcases h8 b h with h' | h'
        · exact n1 ((hFF b).2 (.inr h'))
        · omega
      have hkeep : ∀ b, b < x.w0.heap.size → ¬ x.F0 b → w4.heap[b]? = x.w0.heap[b]? := fun b hb hn => by
        obtain ⟨n1, n2, n3, n4⟩ := nF b hb hn
        have hxs' := hW.size
        exact (h4o b n4).trans ((h6 b (by omega) n1 n2 n4).trans ((hsame b (by omega)).trans (hW.keep b hb hn)))
      have hx4 : SatW ⟨w4, F', ρ', D0'⟩ ρ' (M xs.length) w4 := ⟨⟨F', hM4, fun b hb => .inl hb⟩, rfl, rfl, rfl, Nat.le_refl _, fun _ _ _ => rfl, fun r _ => .refl ρ' r⟩
      let x4 : Cx := ⟨w4, F', ρ', x.D0⟩
      have hx4' : SatW x4 ρ' (M xs.length) w4 := ⟨⟨F', hM4, fun b hb => .inl hb⟩, rfl, rfl, rfl, Nat.le_refl _, fun _ _ _ => rfl, fun r _ => .refl ρ' r⟩
      have ea : ({ shA ds a with defers := mD.map markD ++ (shA ds a).defers } : Act) = shA (mD.map markD ++ ds) a := by simp [shA, hA.dfr]
      rw [ea]
      refine hk .normal ⟨st.env, M xs.length⟩ ρ' a w4 x4 _ hK ⟨rfl, by have hxs' := hW.size; show x.w0.heap.size ≤ w4.heap.size; omega, fun b hb => by
        have hxs' := hW.size
        rcases h8 b hb with h' | h'
        · exact hF0 b ((hFF b).2 (.inr h'))
        · exact .inr (by omega), ?_⟩ ?_ ?_ ?_ (hA.congr fun q hq r hr => h9 r (List.mem_append_left _ (envNames_mem hq hr))) hx4'
      · -- the elder context
        intro ρ5 m5 w5 h5'
        obtain ⟨F5, q1, q2⟩ := h5'.mem
        have hxs' := hW.size
        refine ⟨⟨F5, q1, fun b hb => ?_⟩, ?_, ?_, ?_, ?_, ?_, ?_⟩
        · rcases q2 b hb with h | h
          · rcases h8 b h with h' | h'
            · exact hF0 b ((hFF b).2 (.inr h'))
            · exact .inr (by omega)
          · have : w4.heap.size ≤ b := h
            exact .inr (by omega)
        · exact (show w5.os = w4.os from h5'.os).trans (h4os.1.trans (h3.trans (hos.trans hW.os)))
        · exact (show w5.tape = w4.tape from h5'.tape).trans (h4os.2.1.trans (h4.trans (htape.trans hW.tape)))
        · exact (show w5.output = w4.output from h5'.output).trans (h4os.2.2.trans (h5.trans (hout.trans hW.output)))
        · have : w4.heap.size ≤ w5.heap.size := h5'.size
          omega
        · intro b hb hn
          have := (nF b hb hn).2.2.1
          exact (h5'.keep b (show b < w4.heap.size by omega) this).trans (hkeep b hb hn)
        · intro r hr
          have : r ∈ D0' := List.mem_append_right _ (hx ▸ hr)
          exact (hW.agr r hr).trans ((h9 r this).trans (h5'.agr r hr))
      · cases ro with
        | none => trivial
        | some l0 =>
          obtain ⟨q1, q2, r0, q3⟩ := hro
          have hxs' := hW.size
          exact ⟨show l0 < w4.heap.size by omega, (nF l0 q1 q2).2.2.1, r0, (hkeep l0 q1 q2).trans q3⟩
      · obtain ⟨e0, Ds, e1, e2, e3⟩ := hdo
        have hxs0 := hW.size
        refine ⟨show B ≤ w4.heap.size by omega, mD ++ Ds, by rw [List.map_append, e1], ?_, ?_⟩
        · refine List.nodup_append.2 ⟨hnod, e2, fun D1 hD1 D2 hD2 e => ?_⟩
          have := (hmD D1 hD1).1
          have := (e3 D2 hD2).2.1
          have := hW.size
          omega
        · intro D hD
          rcases List.mem_append.1 hD with hD | hD
          · obtain ⟨q1, q2, q3⟩ := hmD D hD
            have hDlt := heap_lt q3
            have n1 : ¬ FR D := fun h => by have := hFRlt D h; omega
            have n2 : ¬ FI D := fun h => by have := hFIlt D h; omega
            refine ⟨by omega, show D < w4.heap.size by omega, fun h => ?_, (h4o D q2).trans ((h6 D hDlt n1 n2 q2).trans q3)⟩
            rcases h8 D h with h' | h'
            · exact n1 h'
            · omega
          · obtain ⟨q0, q1, q2, q3⟩ := e3 D hD
            have hxs' := hW.size
            exact ⟨q0, show D < w4.heap.size by omega, (nF D q1 q2).2.2.1, (hkeep D q1 q2).trans q3⟩
      · intro hr
        rw [hmro hr]; rfl
  -- THE ENTRY
  refine wpIn_rangeFunc ?_
  intro fn _
  cases ro with
  | none =>
    obtain ⟨rec, hrec⟩ : ∃ rec : LoopState → Option Code → Loop, rec = fun st pe => { state := st, pending := pe, fn, tmps := a.tmps, params := #[p], assign := ca, body := cb, defers := w.heap.size } := ⟨_, rfl⟩
    obtain ⟨W1, hW1⟩ : ∃ W1, (w.alloc (.deferred (some []))).alloc (.loop (rec .ready none)) = W1 := ⟨_, rfl⟩
    have hL1 : W1.heap[w.heap.size + 1]? = some (.loop (rec .ready none)) := by
      rw [← hW1]; have := World.alloc_heap_new (w.alloc (.deferred (some []))) (.loop (rec .ready none)); rwa [World.size_alloc] at this
    have hK1 : W1.heap[w.heap.size]? = some (.deferred (some [])) := by
      rw [← hW1]; exact (Below.heap_alloc _ _ _ (by simp)).trans (World.alloc_heap_new w _)
    have hs1 : W1.heap.size = w.heap.size + 2 := by rw [← hW1]; simp
    refine ⟨w.heap.size + 1, [markD w.heap.size], W1, { target := .fn (.func gf) (capn.map fun b => Value.pointer (some ⟨ρ.adr b, 0, none⟩)).toArray, args := #[.func (.yield (w.heap.size + 1)) #[] #[]] }, W1, gf, _, W1, ?_, ?_, ?_, ?_, nd _,
      key fn (w.heap.size + 1) [w.heap.size] W1 w.heap.size rec hrec (by omega) hL1 (fun b hb => ?_) (by omega) ?_ ?_ ?_ (by simp) (fun D hD => ?_) (fun h => absurd rfl h)⟩
    · rw [← hW1, hrec]; exact run_enterLoop_outer _ _ _ _ _
    · simp only [resolve, hgv]
      simp [go_sem]
    · intro _ _; trivial
    · simp [invoke, go_sem, eg]
    · rw [← hW1]; exact (Below.heap_alloc _ _ b (by simp; omega)).trans (Below.heap_alloc w _ b hb)
    · rw [← hW1]; rfl
    · rw [← hW1]; rfl
    · rw [← hW1]; rfl
    · obtain rfl : D = w.heap.size := by simpa using hD
      exact ⟨Nat.le_refl _, by omega, hK1⟩
  | some l0 =>
    obtain ⟨q1, q2, r0, q3⟩ := hro
    have hl0 : w.heap[l0]? = some (.loop r0) := (hW.keep l0 q1 q2).trans q3
    obtain ⟨rec, hrec⟩ : ∃ rec : LoopState → Option Code → Loop, rec = fun st pe => { state := st, pending := pe, fn, tmps := a.tmps, params := #[p], assign := ca, body := cb, defers := r0.defers } := ⟨_, rfl⟩
    obtain ⟨W1, hW1⟩ : ∃ W1, w.alloc (.loop (rec .ready none)) = W1 := ⟨_, rfl⟩
    have hL1 : W1.heap[w.heap.size]? = some (.loop (rec .ready none)) := by rw [← hW1]; exact World.alloc_heap_new w _
    have hs1 : W1.heap.size = w.heap.size + 1 := by rw [← hW1]; simp
    refine ⟨w.heap.size, [], W1, { target := .fn (.func gf) (capn.map fun b => Value.pointer (some ⟨ρ.adr b, 0, none⟩)).toArray, args := #[.func (.yield w.heap.size) #[] #[]] }, W1, gf, _, W1, ?_, ?_, ?_, ?_, nd _,
      key fn w.heap.size [] W1 r0.defers rec hrec (Nat.le_refl _) hL1 (fun b hb => ?_) (by omega) ?_ ?_ ?_ .nil (fun D hD => by cases hD) (fun _ => rfl)⟩
    · rw [← hW1, hrec]; exact run_enterLoop_inner hl0 _ _ _ _ _
    · simp only [resolve, hgv]
      simp [go_sem]
    · intro _ _; trivial
    · simp [invoke, go_sem, eg]
    · rw [← hW1]; exact Below.heap_alloc w _ b hb
    · rw [← hW1]; rfl
    · rw [← hW1]; rfl
    · rw [← hW1]; rfl


theorem wpxR_sound (ht : TyOk P tt) (c : Code) : SoundR P tt N c := by
  induction c with
  | skip => intro ro n D0 K Q st ρ a w x ds B hok h hx hro hdo hA hW hk; exact wpIn_skip (hk _ _ _ _ _ x ds h (.refl x) hro hdo (fun _ => rfl) hA hW)
  | label l => intro ro n D0 K Q st ρ a w x ds B hok h hx hro hdo hA hW hk; exact wpIn_label (hk _ _ _ _ _ x ds h (.refl x) hro hdo (fun _ => rfl) hA hW)
  | exit id => intro ro n D0 K Q st ρ a w x ds B hok h hx hro hdo hA hW hk; exact wpIn_exit (hk _ _ _ _ _ x ds h (.refl x) hro hdo (fun _ => rfl) hA hW)
  | ret => intro ro n D0 K Q st ρ a w x ds B hok h hx hro hdo hA hW hk; exact wpIn_ret (hk _ _ _ _ _ x ds h (.refl x) hro hdo (fun _ => rfl) hA hW)
  | region id ops draw =>
    intro ro n D0 K Q st ρ a w x ds B hok h hx hro hdo hA hW hk
    subst hx
    simp only [okR] at hok
    cases draw
    all_goals dsimp only [wpxR] at h
    · exact wplR_sound ht hok h hA hW fun st' ρ' a' w' h1 h2 h3 => hk _ _ _ _ _ x ds h1 (.refl x) hro hdo (fun _ => rfl) h2 h3
    · exact h.out ro n ds x ρ a w Q rfl hA hW fun st' ρ' a' w' h1 h2 h3 => hk _ _ _ _ _ x ds h1 (.refl x) hro hdo (fun _ => rfl) h2 h3
  | seq c1 c2 ih1 ih2 =>
    intro ro n D0 K Q st ρ a w x ds B hok h hx hro hdo hA hW hk
    simp only [okR, Bool.and_eq_true] at hok
    refine wpIn_seq (ih1 (K := thenK (fun s' => wpxR P tt N c2 D0 s' K) K) hok.1 h hx hro hdo hA hW fun e st' ρ' a' w' x' ds' h1 hx' hro' hdo' hds' h2 h3 => ?_)
    cases e with
    | normal => exact ih2 hok.2 h1 (hx'.d0.trans hx) hro' hdo' h2 h3 fun e st2 ρ2 a2 w2 x2 ds2 k1 k2 k3 k4 k5 k6 k7 => hk _ _ _ _ _ x2 ds2 k1 (hx'.trans k2) k3 k4 (fun hr => (k5 hr).trans (hds' hr)) k6 k7
    | _ => exact hk _ _ _ _ _ x' ds' h1 hx' hro' hdo' hds' h2 h3
  | cond c t e ih1 ih2 =>
    intro ro n D0 K Q st ρ a w x ds B hok h hx hro hdo hA hW hk
    simp only [okR, Bool.and_eq_true] at hok
    obtain ⟨env, mem⟩ := st
    replace h : condW c (wpxR P tt N t D0) (wpxR P tt N e D0) env mem K := h
    unfold condW at h
    split at h
    · rename_i b hc
      replace h := h.out
      have hc' : (shA ds a).eval c = .bool b := by rw [shA_eval]; exact ev_den hA hc
      cases b with
      | true => exact wpIn_cond_true hc' (ih1 hok.1 (h.1 rfl) hx hro hdo (condEnv_sat hA hc rfl) hW hk)
      | false => exact wpIn_cond_false hc' (ih2 hok.2 (h.2 rfl) hx hro hdo (condEnv_sat hA hc rfl) hW hk)
    · exact h.elim
  | block id b ih =>
    intro ro n D0 K Q st ρ a w x ds B hok h hx hro hdo hA hW hk
    simp only [okR] at hok
    refine wpIn_block (ih (K := blockK id K) hok h hx hro hdo hA hW fun e st' ρ' a' w' x' ds' h1 hx' hro' hdo' hds' h2 h3 => ?_)
    cases e with
    | exit i =>
      simp only [blockK] at h1
      simp only [Exit.inBlock]
      split at h1
      · rename_i hd; rw [if_pos (of_decide_eq_true hd)]; exact hk _ _ _ _ _ x' ds' h1 hx' hro' hdo' hds' h2 h3
      · rename_i hd; rw [if_neg (of_decide_eq_false hd)]; exact hk _ _ _ _ _ x' ds' h1 hx' hro' hdo' hds' h2 h3
    | _ => exact hk _ _ _ _ _ x' ds' h1 hx' hro' hdo' hds' h2 h3
  | rangeFunc g ps ca cb iha ihb => exact rng_sound iha ihb
  | loop b ih => intro ro n D0 K Q st ρ a w x ds B hok h; exact (h : False).elim
  | scope b ih => intro ro n D0 K Q st ρ a w x ds B hok h; exact (h : False).elim
  | goto l => intro ro n D0 K Q st ρ a w x ds B hok h; exact (h : False).elim
  | refuse s => intro ro n D0 K Q st ρ a w x ds B hok h; exact (h : False).elim

theorem leaves_marks {fn : Func} {tmps : Array Value} {R : Ending → World → Prop} {n : Nat} : ∀ (Ds : List Nat) (w : World), Ds.Nodup → (∀ D ∈ Ds, w.heap[D]? = some (.deferred (some []))) →
    (∀ w', w'.heap.size = w.heap.size → (∀ b, b ∉ Ds → w'.heap[b]? = w.heap[b]?) → w'.os = w.os → w'.tape = w.tape → w'.output = w.output → ∃ v, (results fn tmps).run P w' = .ok v w' ∧ R (.returned v) w') →
    LeavesInM Fence.wide n P fn tmps R (Ds.map markD) .returning w
  | [], w, _, _, h => by
    obtain ⟨v, h1, h2⟩ := h w rfl (fun _ _ => rfl) rfl rfl rfl
    exact ⟨_, h1, h2⟩
  | D :: Ds, w, hnd, hD, h => by
    obtain ⟨hn1, hn2⟩ := List.nodup_cons.1 hnd
    refine ⟨by simp, .inl ⟨D, _, rfl, run_takeDeferred (hD D (by simp)), leaves_marks Ds _ hn2 (fun D' hD' => ?_) fun w' h1 h2 h3 h4 h5 => h w' (by rw [h1, World.putObj_size]) (fun b hb => ?_) h3 h4 h5⟩⟩
    · have hne : D' ≠ D := fun e => hn1 (e ▸ hD')
      exact (World.putObj_heap_other hne).trans (hD D' (by simp [hD']))
    · simp only [List.mem_cons, not_or] at hb
      exact (h2 b hb.2).trans (World.putObj_heap_other hb.1)

theorem Spec.of_wpxR {tt : Ty} (ht : TyOk P tt) {f : FuncId} {fn : Func} {c : Code} {args : List V} {pre : Mem} {post : List V → Mem → Prop}
    (hf : P.funcs[f]? = some fn) (hn : (fn.name == "runtime.NumGoroutine") = false) (hb : fn.body = some c) (hok : okR c = true)
    (h : wpxR P tt (args.length + (fn.ntmps - args.length)) c (memNames pre) ⟨argEnv 0 args, pre⟩ (retK tt (memNames pre) fn.results.toList post)) : Spec P f args pre post := by
  refine ⟨⟨fn, hf, hn, by rw [hb]; rfl⟩, fun ρ w F hM => ?_⟩
  refine (callsIn_wide (n := 0)).1 (callsIn_of_wp_marks hf hb trivial ?_)
  have hA : SatA (args.length + (fn.ntmps - args.length)) ρ (argEnv 0 args) { tmps := (args.map (V.den ρ)).toArray ++ Array.replicate (fn.ntmps - (args.map (V.den ρ)).toArray.size) undef, defers := [] } := by
    refine ⟨rfl, by simp, fun d e he => ?_⟩
    obtain ⟨j, v, h1, h2, rfl⟩ := argEnv_get he
    have hj : j < args.length := (List.getElem?_eq_some_iff.1 h2).1
    have : d = j := by omega
    subst this
    simp only [Array.getD_eq_getD_getElem?, Array.getElem?_append, List.size_toArray, List.length_map, hj, if_true]
    simp [h2, E.den]
  have hW : SatW ⟨w, F, ρ, memNames pre⟩ ρ pre w := ⟨⟨F, hM, fun b hb => .inl hb⟩, rfl, rfl, rfl, Nat.le_refl _, fun _ _ _ => rfl, fun r _ => .refl ρ r⟩
  have hs : SoundR P tt (args.length + (fn.ntmps - args.length)) c := wpxR_sound ht c
  refine hs (ro := none) (n := 0) (x := ⟨w, F, ρ, memNames pre⟩) (ds := []) (B := w.heap.size) hok h rfl trivial ⟨Nat.le_refl _, [], rfl, .nil, fun _ h => by cases h⟩ hA hW fun e st' ρ' a' w' x' ds' hK hext _ hdo' _ hA' hW' => ?_
  have fin : ∀ (hres : match resV tt st'.env st'.mem fn.results.toList with | some vs => RetVC (memNames pre) vs st'.mem post | none => False),
      LeavesInM Fence.wide 0 P fn (shA ds' a').tmps (fun e w' => ∃ ρ' vs m F', post vs m ∧ e = .returned (pk ρ' vs) ∧ MemSat ρ' m w' F' ∧ (∀ b, F' b → F b ∨ w.heap.size ≤ b) ∧ Frm F w w' ∧ ∀ r ∈ memNames pre, ρ.agree ρ' r) (shA ds' a').defers .returning w' := fun hres => by
    split at hres
    · rename_i vals hvals
      obtain ⟨hB, Ds, rfl, hnd, hDs⟩ := hdo'
      have ed : (shA (Ds.map markD) a').defers = Ds.map markD := by simp [shA, hA'.dfr]
      rw [ed]
      obtain ⟨F1, hF1, hF1x⟩ := hW'.mem
      have hD1 : ∀ D ∈ Ds, ¬ F1 D := fun D hD h => by
        rcases hF1x D h with h | h
        · exact (hDs D hD).2.2.1 h
        · have := (hDs D hD).2.1; omega
      have hWx := hext.sat _ _ _ hW'
      replace hres := hres.out
      obtain ⟨vs, m, hpost, hsub⟩ := hres
      refine leaves_marks Ds w' hnd (fun D hD => (hW'.keep D (hDs D hD).2.1 (hDs D hD).2.2.1).trans (hDs D hD).2.2.2) fun w2 hs2 hb2 ho2 ht2 hu2 => ?_
      -- the marks' blocks are none of ours
      have hW2 : SatW ⟨w, F, ρ, memNames pre⟩ ρ' st'.mem w2 := by
        obtain ⟨F2, q1, q2⟩ := hWx.mem
        refine ⟨⟨F1, hF1.frame fun b hb => hb2 b fun hD => hD1 b hD hb, fun b hb => ?_⟩, ho2.trans hWx.os, ht2.trans hWx.tape, hu2.trans hWx.output, by rw [hs2]; exact hWx.size, fun b hb hn => ?_, hWx.agr⟩
        · rcases hF1x b hb with h | h
          · exact hext.f0 b h
          · exact .inr (Nat.le_trans hext.size h)
        · have : b ∉ Ds := fun hD => by have := (hDs b hD).1; exact absurd (show b < w.heap.size from hb) (by omega)
          exact (hb2 b this).trans (hWx.keep b hb hn)
      obtain ⟨F2, hF2, _⟩ := hW2.mem
      have hrun := resV_run ht hA' hF2 hvals
      have hr : (results fn a'.tmps).run P w2 = .ok (pk ρ' vals) w2 := by
        have e0 : results fn a'.tmps = (do let vs ← fn.results.mapM (resF a'.tmps); pure (if h : vs.size = 1 then vs[0] else .tuple vs) : Sem Value) := by
          unfold results
          congr 1
        rw [e0]
        have e1 : fn.results = fn.results.toList.toArray := by simp
        rw [e1, List.mapM_toArray]
        simp only [Sem.run_bind, Sem.run_map, hrun, Result.andThen_ok, Sem.run_pure]
        congr 1
        match vals with
        | [] => rfl
        | [v] => rfl
        | v :: u :: l => simp [pk]
      obtain ⟨ρ'', hW'', hpk⟩ := hsub _ ρ' w2 rfl hW2
      obtain ⟨F'', hF'', hF0⟩ := hW''.mem
      exact ⟨_, hr, ρ'', vs, m, F'', hpost, by rw [hpk], hF'', hF0, ⟨hW''.os, hW''.tape, hW''.output, hW''.size, hW''.keep⟩, hW''.agr⟩
    · exact hres.elim
  cases e with
  | normal => exact fin hK
  | ret => exact fin hK
  | _ => exact hK.elim

end
end Go.Proofs.YtaidpalamhmghaaDoor.X
