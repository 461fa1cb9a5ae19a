/- The walk as a function over code: the condition under which the code does what is said. No condition. -/
import Derived.Test.YtaidpalamhmghaaDoorMem
namespace Go.Proofs.YtaidpalamhmghaaDoor.X
open Go.RowKit
set_option linter.unusedVariables false
set_option linter.unusedSimpArgs false

/-! ### Contracts -/
def pk (ρ : Nm) : List V → Value
  | [v] => v.den ρ
  | l => .tuple (l.map (V.den ρ)).toArray

structure Frm (F : Nat → Prop) (w w' : World) : Prop where
  os : w'.os = w.os
  tape : w'.tape = w.tape
  output : w'.output = w.output
  size : w.heap.size ≤ w'.heap.size
  keep : ∀ b, b < w.heap.size → ¬ F b → w'.heap[b]? = w.heap[b]?

def FnOk (P : Program) (f : FuncId) : Prop := ∃ fn, P.funcs[f]? = some fn ∧ (fn.name == "runtime.NumGoroutine") = false ∧ fn.body.isNone = false

def memNames (m : Mem) : List Nat := m.map (·.1)

/-- Called with 'args' where memory holds 'pre' (and anything beside), the function returns values and memory that meet 'post'; nothing else has turned. -/
structure Spec (P : Program) (f : FuncId) (args : List V) (pre : Mem) (post : List V → Mem → Prop) : Prop where
  make ::
  ok : FnOk P f
  run : ∀ ρ w F, MemSat ρ pre w F → Calls P f (args.map (V.den ρ)).toArray w fun e w' => ∃ ρ' vs m F',
    post vs m ∧ e = .returned (pk ρ' vs) ∧ MemSat ρ' m w' F' ∧ (∀ b, F' b → F b ∨ w.heap.size ≤ b) ∧ Frm F w w' ∧ ∀ r ∈ memNames pre, ρ.agree ρ' r

/-! ### Calls in a walk -/
def resNames (vs : List V) (m : Mem) : List Nat := vs.flatMap V.names ++ m.flatMap (·.2.names)

/-- New names of a call's results stand nowhere yet; its results name nothing else. -/
def okRes (D0 : List Nat) (env : Env) (rest : Mem) (pn : List Nat) (vs : List V) (m : Mem) : Bool :=
  ((memNames m).all fun r => hasN pn r || freshN D0 env rest r) && ((resNames vs m).all fun r => hasN (memNames m) r || hasN pn r)

/-- A call whose results and memory meet K. -/
structure CallVC (P : Program) (D0 : List Nat) (f : FuncId) (args : List V) (env : Env) (mem : Mem) (K : List V → Mem → Prop) : Prop where
  make ::
  out : FnOk P f ∧ ∀ (x : Cx) (ρ : Nm) (w : World) (R : Ending → World → Prop), x.D0 = D0 → SatW x ρ mem w →
    (∀ vs m ρ' w', K vs m → (∀ p ∈ env, ∀ r ∈ p.2.names, ρ.agree ρ' r) → SatW x ρ' m w' → R (.returned (pk ρ' vs)) w') →
    Calls P f (args.map (V.den ρ)).toArray w R

/-- What is to be shown of a call by a contract. -/
structure CallBy (P : Program) (D0 : List Nat) (f : FuncId) (args : List V) (env : Env) (mem : Mem) (K : List V → Mem → Prop) : Prop where
  make ::
  out :
  ∃ pre rest post, mem.Perm (pre ++ rest) ∧ Spec P f args pre post ∧ ∀ vs m, post vs m → okRes D0 env rest (memNames pre) vs m = true ∧ K vs (m ++ rest)

def pickN : Mem → List Nat → Option (Mem × Mem)
  | m, [] => some ([], m)
  | m, r :: rs => match look m r, pickN (m.filter fun p => !(Nat.beq p.1 r)) rs with
    | some R, some (a, b) => some ((r, R) :: a, b)
    | _, _ => none

structure LoadVC (es : List (List C)) (i : Nat) (K : List C → Prop) : Prop where
  make ::
  out : ∃ x, es[i]? = some x ∧ K x

/-- An operation that has a law of its own: the law is to be named. -/
structure OpVC (P : Program) (N : Nat) (D0 : List Nat) (o : Oper) (env : Env) (mem : Mem) (k : St → Prop) : Prop where
  make ::
  out : ∀ (x : Cx) (ρ : Nm) (a : Act) (w : World) (next : Act → World → Prop) (Q : Exit → Act → World → Prop), x.D0 = D0 → dstOk N o.dst = true → SatA N ρ env a → SatW x ρ mem w →
    (∀ st' ρ' a' w', k st' → SatA N ρ' st'.env a' → SatW x ρ' st'.mem w' → next a' w') → o.wp P a w next Q

/-- A region whose order is open. -/
structure DrawVC (P : Program) (N : Nat) (D0 : List Nat) (id : Nat) (ops : Array Oper) (st : St) (k : St → Prop) : Prop where
  make ::
  out : ∀ (x : Cx) (ρ : Nm) (a : Act) (w : World) (Q : Exit → Act → World → Prop), x.D0 = D0 → SatA N ρ st.env a → SatW x ρ st.mem w →
    (∀ st' ρ' a' w', k st' → SatA N ρ' st'.env a' → SatW x ρ' st'.mem w' → Q .normal a' w') → (Code.region id ops true).wp P Q a w

theorem LoadVC.mk {es : List (List C)} {i : Nat} {K : List C → Prop} (x : List C) (h : es[i]? = some x) (k : K x) : LoadVC es i K := ⟨⟨x, h, k⟩⟩

/-! ### One operation -/
def evs (env : Env) : List Operand → Option (List V)
  | [] => some []
  | x :: r => match ev env x, evs env r with
    | some (.v v), some l => some (v :: l)
    | _, _ => none

def resE : List V → E
  | [v] => .v v
  | l => .tup l

def capV (l : List Nat) : List V := l.map fun b => .c (.ptr b 0)

def tyZero (tt : Ty) (T : TypeId) : Option (List C) := match look tt T with
  | some t => some (t.zero.map ofCell)
  | none => none

/-- Loads, stores, new variables, calls. -/
def exM (P : Program) (tt : Ty) (N : Nat) (D0 : List Nat) (o : Oper) (env : Env) (mem : Mem) (k : St → Prop) : Prop := match o.op with
  | .load T x => match ev env x with
    | some (.v (.c (.ptr r off))) => match look mem r with
      | some (.box _ cs) => match loadC tt T cs off with
        | some v => k ⟨putE env o.dst (.v v), mem⟩
        | none => OpVC P N D0 o env mem k
      | _ => OpVC P N D0 o env mem k
    | some (.v (.c (.el r i sz off))) => match rowRes mem r with
      | some (sz', es) => match decide (sz = sz') with
        | true => LoadVC es i fun x => match loadC tt T x off with
          | some v => k ⟨putE env o.dst (.v v), mem⟩
          | none => OpVC P N D0 o env mem k
        | false => OpVC P N D0 o env mem k
      | none => OpVC P N D0 o env mem k
    | _ => OpVC P N D0 o env mem k
  | .store T x y => match ev env x, ev env y with
    | some (.v (.c (.ptr r off))), some (.v v) => match look mem r with
      | some (.box T' cs) => match tySz tt T v.cells.length, v.cells.all C.one, Nat.ble (off + v.cells.length) cs.length with
        | true, true, true => k ⟨putE env o.dst .und, memSet mem r (.box T' (setAt cs off v.cells))⟩
        | _, _, _ => OpVC P N D0 o env mem k
      | _ => OpVC P N D0 o env mem k
    | some (.v (.c (.el r i sz off))), some (.v v) => match look mem r with
      | some (.sl T' sz' es) => match decide (sz = sz'), tySz tt T v.cells.length, v.cells.all C.one, v.cells.all fun c => c.names.isEmpty with
        | true, true, true, true => LoadVC es i fun x => match Nat.ble (off + v.cells.length) x.length with
          | true => k ⟨putE env o.dst .und, memSet mem r (.sl T' sz' (es.set i (setAt x off v.cells)))⟩
          | false => OpVC P N D0 o env mem k
        | _, _, _, _ => OpVC P N D0 o env mem k
      | _ => OpVC P N D0 o env mem k
    | _, _ => OpVC P N D0 o env mem k
  | .box T x => match o.dst, ev env x with
    | some d, some (.v v) => match freshN D0 env mem d, v.cells.all C.one with
      | true, true => k ⟨(d, .v (.c (.ptr d 0))) :: env, (d, .box T v.cells) :: mem⟩
      | _, _ => OpVC P N D0 o env mem k
    | _, _ => OpVC P N D0 o env mem k
  | .alloc T => match o.dst, tyZero tt T with
    | some d, some cs => match freshN D0 env mem d with
      | true => k ⟨(d, .v (.c (.ptr d 0))) :: env, (d, .box T cs) :: mem⟩
      | false => OpVC P N D0 o env mem k
    | _, _ => OpVC P N D0 o env mem k
  | .call ⟨.value fx, args, _⟩ => match ev env fx, evs env args.toList with
    | some (.v (.c (.fn f caps))), some vs => CallVC P D0 f (vs ++ capV caps) env mem fun rs m => k ⟨putE env o.dst (resE rs), m⟩
    | _, _ => OpVC P N D0 o env mem k
  | .pick c x y => match ev env c with
    | some (.v (.c (.bool b))) => CondVC b
        (match ev env x with
          | some e => k ⟨putE env o.dst e, mem⟩
          | none => OpVC P N D0 o env mem k)
        (match ev env y with
          | some e => k ⟨putE env o.dst e, mem⟩
          | none => OpVC P N D0 o env mem k)
    | _ => OpVC P N D0 o env mem k
  | _ => OpVC P N D0 o env mem k

def ex1 (P : Program) (tt : Ty) (N : Nat) (D0 : List Nat) (o : Oper) (env : Env) (mem : Mem) (k : St → Prop) : Prop :=
  match pv tt env mem o.op with
  | some e => k ⟨putE env o.dst e, mem⟩
  | none => match av tt env o.op with
    | some (kd, n) => ArVC kd n fun m => k ⟨putE env o.dst (.v (.c (.int kd m))), mem⟩
    | none => match sv tt env mem o.op with
      | some (p, e) => SideVC p (k ⟨putE env o.dst e, mem⟩)
      | none => exM P tt N D0 o env mem k

/-! ### States written out (so that 'whnf' shows them as they are, and reckons each part once) -/
def fC {α : Sort _} (c : C) (k : C → α) : α := match c with
  | .int a b => k (.int a b)
  | .bool a => k (.bool a)
  | .str a => k (.str a)
  | .val a => k (.val a)
  | .ptr a b => k (.ptr a b)
  | .el a b c d => k (.el a b c d)
  | .sl a => k (.sl a)
  | .sub a b c d => k (.sub a b c d)
  | .mp a => k (.mp a)
  | .fn a b => k (.fn a b)
  | .ins a b => k (.ins a b)
  | .eli a b c d e => k (.eli a b c d e)
def fCs {α : Sort _} : List C → (List C → α) → α
  | [], k => k []
  | c :: l, k => fC c fun c' => fCs l fun l' => k (c' :: l')
def fV {α : Sort _} (v : V) (k : V → α) : α := match v with
  | .c c => fC c fun c' => k (.c c')
  | .agg l => fCs l fun l' => k (.agg l')
def fVs {α : Sort _} : List V → (List V → α) → α
  | [], k => k []
  | c :: l, k => fV c fun c' => fVs l fun l' => k (c' :: l')
def fE {α : Sort _} (e : E) (k : E → α) : α := match e with
  | .v v => fV v fun v' => k (.v v')
  | .tup l => fVs l fun l' => k (.tup l')
  | .und => k .und
def fEnv {α : Sort _} (env : Env) (k : Env → α) : α := match env with
  | [] => k []
  | (d, e) :: r => fE e fun e' => k ((d, e') :: r)
def fR {α : Sort _} (R : Res) (k : Res → α) : α := match R with
  | .box T cs => fCs cs fun cs' => k (.box T cs')
  | .sl T sz es => k (.sl T sz es)
  | .ro o T sz es => k (.ro o T sz es)
  | .pr p a b => k (.pr p a b)
  | .ext X => k (.ext X)
def fMem {α : Sort _} : Mem → (Mem → α) → α
  | [], k => k []
  | (r, R) :: m, k => fR R fun R' => fMem m fun m' => k ((r, R') :: m')
def strict {α : Sort _} (k : St → α) (st : St) : α := match st with
  | ⟨env, mem⟩ => fEnv env fun env' => fMem mem fun mem' => k ⟨env', mem'⟩

theorem fC_eq {α : Sort _} (c : C) (k : C → α) : fC c k = k c := by cases c <;> rfl
theorem fCs_eq {α : Sort _} : ∀ (l : List C) (k : List C → α), fCs l k = k l
  | [], _ => rfl
  | c :: l, k => by simp only [fCs, fC_eq, fCs_eq l]
theorem fV_eq {α : Sort _} (c : V) (k : V → α) : fV c k = k c := by cases c <;> simp only [fV, fC_eq, fCs_eq]
theorem fVs_eq {α : Sort _} : ∀ (l : List V) (k : List V → α), fVs l k = k l
  | [], _ => rfl
  | c :: l, k => by simp only [fVs, fV_eq, fVs_eq l]
theorem fE_eq {α : Sort _} (c : E) (k : E → α) : fE c k = k c := by cases c <;> simp only [fE, fV_eq, fVs_eq]
theorem fEnv_eq {α : Sort _} (c : Env) (k : Env → α) : fEnv c k = k c := by
  match c with
  | [] => rfl
  | (d, e) :: r => simp only [fEnv, fE_eq]
theorem fR_eq {α : Sort _} (c : Res) (k : Res → α) : fR c k = k c := by cases c <;> simp only [fR, fCs_eq]
theorem fMem_eq {α : Sort _} : ∀ (l : Mem) (k : Mem → α), fMem l k = k l
  | [], _ => rfl
  | (r, R) :: l, k => by simp only [fMem, fR_eq, fMem_eq l]
theorem strict_eq {α : Sort _} (k : St → α) (st : St) : strict k st = k st := by
  obtain ⟨env, mem⟩ := st
  simp only [strict, fEnv_eq, fMem_eq]

/-- What an operation of the list has yielded, for a guard. -/
inductive Gd where
  | known (d : Nat) (b : Bool)
  | skip
  | unknown

def guardOf (ops : Array Oper) (env : Env) (j : Nat) : Gd := match ops.toList[j]? with
  | some oj => match oj.dst with
    | some d => match look env d with
      | some (.v (.c (.bool b))) => .known d b
      | some .und => .skip
      | _ => .unknown
    | none => .unknown
  | none => .unknown

def wplStep (P : Program) (tt : Ty) (N : Nat) (D0 : List Nat) (ops : Array Oper) (o : Oper) (next : St → Prop) (env : Env) (mem : Mem) : Prop :=
  match dstOk N o.dst with
    | false => False
    | true => match o.guard with
      | none => ex1 P tt N D0 o env mem (strict next)
      | some (j, want) => match guardOf ops env j with
        | .skip => strict next ⟨putE env o.dst .und, mem⟩
        | .known d b => match want with
          | true => CondVC b
              (ex1 P tt N D0 o ((d, .v (.c (.bool true))) :: env) mem (strict next))
              (strict next ⟨putE ((d, .v (.c (.bool false))) :: env) o.dst .und, mem⟩)
          | false => CondVC b
              (strict next ⟨putE ((d, .v (.c (.bool true))) :: env) o.dst .und, mem⟩)
              (ex1 P tt N D0 o ((d, .v (.c (.bool false))) :: env) mem (strict next))
        | .unknown => False

/-- (By the recursor itself: the kernel and 'whnf' then come to the same terms.) -/
@[reducible] def wpl (P : Program) (tt : Ty) (N : Nat) (D0 : List Nat) (ops : Array Oper) (k : St → Prop) (l : List Oper) : St → Prop :=
  List.rec (motive := fun _ => St → Prop) (fun st => k st) (fun o _ next st => match st with | ⟨env, mem⟩ => wplStep P tt N D0 ops o next env mem) l

theorem wpl_nil (P : Program) (tt : Ty) (N : Nat) (D0 : List Nat) (ops : Array Oper) (k : St → Prop) (st : St) : wpl P tt N D0 ops k [] st = k st := rfl
theorem wpl_cons (P : Program) (tt : Ty) (N : Nat) (D0 : List Nat) (ops : Array Oper) (k : St → Prop) (o : Oper) (rest : List Oper) (env : Env) (mem : Mem) :
    wpl P tt N D0 ops k (o :: rest) ⟨env, mem⟩ = wplStep P tt N D0 ops o (wpl P tt N D0 ops k rest) env mem := rfl

/-! ### Code -/
/-- A state tells less than another one. -/
def Sub (D0 : List Nat) (s t : St) : Prop := ∀ N x ρ a w, x.D0 = D0 → SatA N ρ s.env a → SatW x ρ s.mem w → ∃ ρ', SatA N ρ' t.env a ∧ SatW x ρ' t.mem w

structure LoopVC (D0 : List Nat) (body : St → (Exit → St → Prop) → Prop) (s : St) (K : Exit → St → Prop) : Prop where
  make ::
  out :
  ∃ (G : Type) (S : G → St) (I : G → Prop) (μ : G → Nat) (g0 : G), I g0 ∧ Sub D0 s (S g0) ∧
    ∀ g, I g → ∃ K' : Exit → St → Prop, body (S g) K' ∧ ∀ e s', K' e s' → match e with
      | .normal => ∃ g', I g' ∧ μ g' < μ g ∧ Sub D0 s' (S g')
      | e => K e s'

def condEnv (env : Env) (c : Operand) (b : Bool) : Env := match c with
  | .tmp t => (t, .v (.c (.bool b))) :: env
  | _ => env

/-- What becomes of a sequence's second part. -/
def thenK (b : St → Prop) (K : Exit → St → Prop) : Exit → St → Prop
  | .normal, s => b s
  | e, s => K e s

def blockK (id : Nat) (K : Exit → St → Prop) : Exit → St → Prop
  | .exit i, s => match decide (i = id) with
    | true => K .normal s
    | false => K (.exit i) s
  | e, s => K e s

abbrev WK := St → (Exit → St → Prop) → Prop

def condW (c : Operand) (t e : WK) (env : Env) (mem : Mem) (K : Exit → St → Prop) : Prop := match ev env c with
  | some (.v (.c (.bool b))) => CondVC b (t ⟨condEnv env c true, mem⟩ K) (e ⟨condEnv env c false, mem⟩ K)
  | _ => False

@[reducible] def wpx (P : Program) (tt : Ty) (N : Nat) (D0 : List Nat) (c : Code) : WK :=
  Code.rec (motive := fun _ => WK)
    (fun s K => K .normal s)
    (fun id ops draw s K => match draw with
      | false => wpl P tt N D0 ops (K .normal) ops.toList s
      | true => DrawVC P N D0 id ops s (K .normal))
    (fun _ _ a b s K => a s (thenK (fun s' => b s' K) K))
    (fun c _ _ t e s K => match s with | ⟨env, mem⟩ => condW c t e env mem K)
    (fun id _ b s K => b s (blockK id K))
    (fun _ b s K => LoopVC D0 b s K)
    (fun _ _ _ _ _ _ _ _ => False)
    (fun id s K => K (.exit id) s)
    (fun _ _ _ _ => False)
    (fun _ s K => K .normal s)
    (fun _ _ _ => False)
    (fun s K => K .ret s)
    (fun _ _ _ => False) c

end Go.Proofs.YtaidpalamhmghaaDoor.X
