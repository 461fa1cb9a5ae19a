/- Operations that yield a value: what they yield, abstractly, and that the model yields just this. No condition. -/
import Derived.Test.YtaidpalamhmghaaDoorCore
namespace Go.Proofs.YtaidpalamhmghaaDoor.X
set_option linter.unusedVariables false
set_option linter.unusedSimpArgs false

/-! ### Conditions that a walk asks for -/
/-- 'p' is to be shown, then 'K'. -/
structure SideVC (p K : Prop) : Prop where
  make ::
  out : p ∧ K
/-- A whole number of kind k is made: it is wrapped. -/
structure ArVC (k : IntKind) (n : Int) (K : Int → Prop) : Prop where
  make ::
  out : K (k.wrap n)
structure CondVC (b : Bool) (t e : Prop) : Prop where
  make ::
  out : (b = true → t) ∧ (b = false → e)

theorem SideVC.mk {p K : Prop} (h : p) (k : K) : SideVC p K := ⟨⟨h, k⟩⟩
theorem ArVC.wrap {k : IntKind} {n : Int} {K : Int → Prop} (h : K (k.wrap n)) : ArVC k n K := ⟨h⟩
theorem ArVC.fit {k : IntKind} {n : Int} {K : Int → Prop} (h : k.wrap n = n) (hk : K n) : ArVC k n K := ⟨by rw [h]; exact hk⟩
theorem ArVC.i64 {n : Int} {K : Int → Prop} (h : -9223372036854775808 ≤ n ∧ n ≤ 9223372036854775807) (hk : K n) : ArVC .i64 n K :=
  ArVC.fit ((IntWalk.i64_left n).trans (IntWalk.wrap64_in n h)) hk
theorem CondVC.t {t e : Prop} (h : t) : CondVC true t e := ⟨⟨fun _ => h, fun h' => Bool.noConfusion h'⟩⟩
theorem CondVC.f {t e : Prop} (h : e) : CondVC false t e := ⟨⟨fun h' => Bool.noConfusion h', fun _ => h⟩⟩
theorem CondVC.mk {b : Bool} {t e : Prop} (h1 : b = true → t) (h2 : b = false → e) : CondVC b t e := ⟨⟨h1, h2⟩⟩
theorem CondVC.dec {p : Prop} [Decidable p] {t e : Prop} (h1 : p → t) (h2 : ¬ p → e) : CondVC (decide p) t e :=
  CondVC.mk (fun h => h1 (of_decide_eq_true h)) (fun h => h2 (of_decide_eq_false h))
theorem CondVC.yes {p : Prop} [Decidable p] {t e : Prop} (h : p) (h1 : t) : CondVC (decide p) t e := CondVC.dec (fun _ => h1) (fun h' => absurd h h')
theorem CondVC.no {p : Prop} [Decidable p] {t e : Prop} (h : ¬ p) (h1 : e) : CondVC (decide p) t e := CondVC.dec (fun h' => absurd h' h) (fun _ => h1)
theorem CondVC.neg {b : Bool} {t e : Prop} (h : CondVC b e t) : CondVC (!b) t e := by
  replace h := h.out
  constructor
  cases b
  · exact ⟨fun _ => h.2 rfl, fun h' => Bool.noConfusion h'⟩
  · exact ⟨fun h' => Bool.noConfusion h', fun _ => h.1 rfl⟩

/-! ### Operations that make a number -/
def arI : BinOp → Int → Int → Option Int
  | .add, a, b => some (a + b)
  | .sub, a, b => some (a - b)
  | .mul, a, b => some (a * b)
  | _, _, _ => none

def tyInt (tt : Ty) (T : TypeId) : Option IntKind := match look tt T with
  | some ⟨.int k, _, _, _, _⟩ => some k
  | _ => none

def tyKnown (tt : Ty) (T : TypeId) : Bool := match look tt T with
  | some _ => true
  | none => false

def av (tt : Ty) (env : Env) : Op → Option (IntKind × Int)
  | .binOp op T x y _ => match ev env x, ev env y with
    | some (.v (.c (.int k a))), some (.v (.c (.int k' b))) => match decide (k = k'), arI op a b with
      | true, some n => some (k, n)
      | _, _ => none
    | _, _ => none
  | .unOp .neg _ x => match ev env x with
    | some (.v (.c (.int k a))) => some (k, -a)
    | _ => none
  | .convert S T x => match ev env x, tyInt tt T with
    | some (.v (.c (.int _ n))), some k => match tyKnown tt S with
      | true => some (k, n)
      | false => none
    | _, _ => none
  | _ => none

theorem K.some {P : Program} {T : TypeId} : ∀ {k : K}, k.ok P T → (P.underlying T).isSome = true
  | .int k, h => by simp only [K.ok] at h; rw [h]; rfl
  | .bool, h => by simp only [K.ok] at h; rw [h]; rfl
  | .str, h => by simp only [K.ok] at h; rw [h]; rfl
  | .slice e, h => by simp only [K.ok] at h; rw [h]; rfl
  | .struct _, h => by obtain ⟨fs, h, _⟩ := h; rw [h]; rfl
  | .map _ _, h => by simp only [K.ok] at h; rw [h]; rfl
  | .other, h => h

theorem tyKnown_some {P : Program} {tt : Ty} (ht : TyOk P tt) {T : TypeId} (h : tyKnown tt T = true) : ∃ d, P.underlying T = some d := by
  unfold tyKnown at h
  split at h
  · rename_i hl; exact Option.isSome_iff_exists.1 (K.some (ht.get hl).kind)
  · cases h

theorem tyInt_ok {P : Program} {tt : Ty} (ht : TyOk P tt) {T : TypeId} {k : IntKind} (hT : tyInt tt T = some k) : P.underlying T = some (.int k) := by
  unfold tyInt at hT
  split at hT
  · rename_i hl; obtain rfl := Option.some.inj hT; exact (ht.get hl).kind
  · cases hT

theorem tyStr_ok {P : Program} {tt : Ty} (ht : TyOk P tt) {T : TypeId} (hT : tyStr tt T = true) : P.underlying T = some .string := by
  unfold tyStr at hT
  split at hT
  · rename_i hl; exact (ht.get hl).kind
  · cases hT

theorem tySlice_ok {P : Program} {tt : Ty} (ht : TyOk P tt) {T : TypeId} (hT : tySlice tt T = true) : ∃ e, P.underlying T = some (.slice e) := by
  unfold tySlice at hT
  split at hT
  · rename_i hl; exact ⟨_, (ht.get hl).kind⟩
  · cases hT

theorem av_run {P : Program} {tt : Ty} (ht : TyOk P tt) {N : Nat} {ρ : Nm} {env : Env} {a : Act} {w : World} {o : Oper} {k : IntKind} {n : Int}
    (hA : SatA N ρ env a) (h : av tt env o.op = some (k, n)) :
    (execOp a.eval o).run P w = .ok (.value (.int k (k.wrap n))) w := by
  unfold execOp
  generalize ho : o.op = op at h
  cases op <;> try simp only [av, reduceCtorEq] at h
  case binOp op T x y yt =>
    split at h
    · rename_i k1 a1 k2 b1 hx hy
      split at h
      · rename_i n' hk hn
        simp only [Option.some.injEq, Prod.mk.injEq] at h
        obtain ⟨rfl, rfl⟩ := h
        have hk' : k1 = k2 := of_decide_eq_true hk
        subst hk'
        simp only [ev_den hA hx, ev_den hA hy, E.den, V.den, C.den]
        cases op <;> simp only [arI, Option.some.injEq, reduceCtorEq] at hn <;> subst hn <;> simp [eqGuard, binOp, Op.intArith]
      · cases h
    · cases h
  case unOp op T x =>
    cases op <;> try simp only [av, reduceCtorEq] at h
    split at h
    · rename_i k1 a1 hx
      simp only [Option.some.injEq, Prod.mk.injEq] at h
      obtain ⟨rfl, rfl⟩ := h
      simp only [ev_den hA hx, E.den, V.den, C.den]
      simp [Op.unary, Op.intArith]
    · cases h
  case convert S T x =>
    split at h
    · rename_i k1 n1 k2 hx hT
      split at h
      · rename_i hk
        simp only [Option.some.injEq, Prod.mk.injEq] at h
        obtain ⟨rfl, rfl⟩ := h
        have hu := tyInt_ok ht hT
        obtain ⟨d, hd⟩ := tyKnown_some ht hk
        simp only [ev_den hA hx, E.den, V.den, C.den]
        simp [convert, run_underlying hd, run_underlying hu, Conv.intToInt]
      · cases h
    · cases h

/-! ### Operations that yield a value under a condition -/
def slS (l : List UInt8) (lo hi : Nat) : List UInt8 := (l.take hi).drop lo

def evN (env : Env) (dflt : Int) : Option Operand → Option Int
  | none => some dflt
  | some x => match ev env x with
    | some (.v (.c (.int _ n))) => some n
    | _ => none

/-- What a slice's elements are: their number, their size. -/
def rowOf (mem : Mem) : C → Option (Nat × Nat × Nat)
  | .sl r => match rowRes mem r with
    | some (sz, es) => some (r, es.length, sz)
    | none => none
  | _ => none

/-- A slice type's element type, and how many cells it has. -/
def tyElem (tt : Ty) (T : TypeId) : Option (TypeId × Nat) := match look tt T with
  | some ⟨.slice e, _, _, _, _⟩ => match look tt e with
    | some t => some (e, t.sz)
    | none => none
  | _ => none

theorem tyElem_ok {P : Program} {tt : Ty} (ht : TyOk P tt) {T e : TypeId} {sz : Nat} (h : tyElem tt T = some (e, sz)) :
    P.underlying T = some (.slice e) ∧ ∃ i, P.info? e = some i ∧ i.size = sz := by
  unfold tyElem at h
  split at h
  · rename_i hl
    split at h
    · rename_i hl2
      simp only [Option.some.injEq, Prod.mk.injEq] at h
      obtain ⟨rfl, rfl⟩ := h
      obtain ⟨i, h1, h2, _⟩ := (ht.get hl2).info
      exact ⟨(ht.get hl).kind, i, h1, h2⟩
    · cases h
  · cases h

def sv (tt : Ty) (env : Env) (mem : Mem) : Op → Option (Prop × E)
  | .binOp op T x y _ => match ev env x, ev env y with
    | some (.v (.c (.str a))), some (.v (.c (.str b))) => match op with
      | .add => some ((a.length + b.length : Nat) ≤ (9223372036854775807 : Int), .v (.c (.str (a ++ b))))
      | _ => none
    | some (.v (.c (.int k a))), some (.v (.c (.int k' b))) => match decide (k = k'), op with
      | true, .rem => some (b ≠ 0, .v (.c (.int k (a.tmod b))))
      | true, .quo => some (b ≠ 0, .v (.c (.int k (k.wrap (a.tdiv b)))))
      | _, _ => none
    | _, _ => none
  | .convert S T x => match ev env x, tyStr tt T, tyKnown tt S with
    | some (.v (.c (.int _ n))), true, true => some (True, .v (.c (.str (Utf8.encode n).data.toList)))
    | some (.v (.c (.str l))), true, true => some (True, .v (.c (.str l)))
    | _, _, _ => none
  | .index T x i => match ev env x, ev env i, tyStr tt T with
    | some (.v (.c (.str l))), some (.v (.c (.int _ n))), true => some (0 ≤ n ∧ n < l.length, .v (.c (.int .u8 ((l.getD n.toNat 0).toNat : Nat))))
    | _, _, _ => none
  | .slice T x lo hi none => match ev env x with
    | some (.v (.c (.str l))) => match evN env 0 lo, evN env (l.length : Int) hi, tyStr tt T with
      | some a, some b, true => some (0 ≤ a ∧ a ≤ b ∧ b ≤ l.length, .v (.c (.str (slS l a.toNat b.toNat))))
      | _, _, _ => none
    | _ => none
  | .indexAddr T x i => match ev env x, ev env i, tyElem tt T with
    | some (.v (.c c)), some (.v (.c (.int _ n))), some (_, sz) => match rowOf mem c with
      | some (r, len, sz') => match decide (sz = sz') with
        | true => some (0 ≤ n ∧ n < len, .v (.c (.el r n.toNat sz' 0)))
        | false => none
      | none => none
    | _, _, _ => none
  | _ => none

theorem extract_mk (l : List UInt8) (a b : Nat) : (⟨l.toArray⟩ : ByteArray).extract a b = ⟨(slS l a b).toArray⟩ := by
  apply ByteArray.ext
  rw [ByteArray.data_extract]
  simp [slS, List.extract_eq_take_drop, List.drop_take]

theorem rowOf_len {ρ : Nm} {mem : Mem} {w : World} {F : Nat → Prop} (hM : MemSat ρ mem w F) {c : C} {r n sz : Nat} (h : rowOf mem c = some (r, n, sz)) : c = .sl r ∧ ρ.rn r = n := by
  cases c <;> try simp only [rowOf, reduceCtorEq] at h
  split at h
  · rename_i hl
    simp only [Option.some.injEq, Prod.mk.injEq] at h
    obtain ⟨rfl, rfl, rfl⟩ := h
    obtain ⟨R, hl', hR⟩ := rowRes_is hl
    obtain ⟨F', hh, _⟩ := hM.get hl'
    exact ⟨rfl, hR.rn hh⟩
  · cases h

theorem isRow.base {sz : Nat} {es : List (List C)} {R : Res} (h : isRow sz es R) {ρ : Nm} {r : Nat} {w : World} {F : Nat → Prop} (hR : R.holds ρ r w F) (h0 : 0 < es.length) : ∃ a, ρ.rb r = some a := by
  cases h with
  | sl T =>
    rcases hR.2.2 with ⟨_, _, ⟨_, h1⟩ | ⟨g, cap, cur, hv, _⟩⟩ | ⟨_, h1, _⟩
    · omega
    · simp only [C.den, Value.slice.injEq] at hv
      exact ⟨_, hv.1⟩
    · subst h1; simp at h0
  | ro o T =>
    obtain ⟨_, h2, _, ⟨_, h3, _⟩ | ⟨a, ha, _⟩⟩ := hR
    · subst h3; simp at h0
    · exact ⟨a, ha⟩
  | fx T =>
    obtain ⟨_, _, _, g, cur, fr, h1, _⟩ := hR
    exact ⟨_, h1⟩

/-- A slice with an element has its first one somewhere. -/
theorem rowOf_base {ρ : Nm} {mem : Mem} {w : World} {F : Nat → Prop} (hM : MemSat ρ mem w F) {c : C} {r n sz : Nat} (h : rowOf mem c = some (r, n, sz)) (h0 : 0 < n) : ∃ a, ρ.rb r = some a := by
  obtain ⟨rfl, _⟩ := rowOf_len hM h
  simp only [rowOf] at h
  split at h
  · rename_i hl
    simp only [Option.some.injEq, Prod.mk.injEq] at h
    obtain ⟨_, rfl, rfl⟩ := h
    obtain ⟨R, hl', hR⟩ := rowRes_is hl
    obtain ⟨F', hh, _⟩ := hM.get hl'
    exact hR.base hh h0
  · cases h

theorem evN_den {N : Nat} {ρ : Nm} {env : Env} {a : Act} (hA : SatA N ρ env a) {x : Operand} {d n : Int} (h : evN env d (some x) = some n) : ∃ k, a.eval x = .int k n := by
  simp only [evN] at h
  split at h
  · rename_i k n' hx
    obtain rfl := Option.some.inj h
    exact ⟨k, ev_den hA hx⟩
  · cases h

theorem sv_run {P : Program} {tt : Ty} (ht : TyOk P tt) {N : Nat} {ρ : Nm} {env : Env} {mem : Mem} {a : Act} {w : World} {F : Nat → Prop} {o : Oper} {p : Prop} {e : E}
    (hA : SatA N ρ env a) (hM : MemSat ρ mem w F) (h : sv tt env mem o.op = some (p, e)) (hp : p) : (execOp a.eval o).run P w = .ok (.value (e.den ρ)) w := by
  unfold execOp
  generalize ho : o.op = op at h
  cases op <;> try simp only [sv, reduceCtorEq] at h
  case binOp op T x y yt =>
    split at h
    · rename_i s1 s2 hx hy
      split at h
      · simp only [Option.some.injEq, Prod.mk.injEq] at h
        obtain ⟨rfl, rfl⟩ := h
        have hp' : s1.length + s2.length ≤ 9223372036854775807 := by omega
        simp only [ev_den hA hx, ev_den hA hy, E.den, V.den, C.den]
        have hs : ∀ l : List UInt8, (⟨l.toArray⟩ : ByteArray).size = l.length := fun l => rfl
        have ha : (⟨s1.toArray⟩ : ByteArray) ++ ⟨s2.toArray⟩ = ⟨(s1 ++ s2).toArray⟩ := by
          apply ByteArray.ext; simp
        have hm : ¬ (IntKind.i64.max < ((s1.length + s2.length : Nat) : Int)) := by
          have : IntKind.i64.max = 9223372036854775807 := by decide
          omega
        simp only [eqGuard, binOp, Op.stringOp, hs, ha, gt_iff_lt, if_neg hm]
        simp
      · cases h
    · rename_i k1 a1 k2 b1 hx hy
      split at h
      · rename_i hk
        simp only [Option.some.injEq, Prod.mk.injEq] at h
        obtain ⟨rfl, rfl⟩ := h
        have hk' : k1 = k2 := of_decide_eq_true hk
        subst hk'
        simp only [ev_den hA hx, ev_den hA hy, E.den, V.den, C.den]
        simp [eqGuard, binOp, Op.intDiv, hp]
      · rename_i hk
        simp only [Option.some.injEq, Prod.mk.injEq] at h
        obtain ⟨rfl, rfl⟩ := h
        have hk' : k1 = k2 := of_decide_eq_true hk
        subst hk'
        simp only [ev_den hA hx, ev_den hA hy, E.den, V.den, C.den]
        simp [eqGuard, binOp, Op.intDiv, hp]
      · cases h
    · cases h
  case convert S T x =>
    split at h
    · rename_i k n hx h1 h2
      simp only [Option.some.injEq, Prod.mk.injEq] at h
      obtain ⟨rfl, rfl⟩ := h
      obtain ⟨d, hd⟩ := tyKnown_some ht h2
      simp only [ev_den hA hx, E.den, V.den, C.den]
      simp [convert, run_underlying hd, run_underlying (tyStr_ok ht h1), Conv.intToString]
    · rename_i l hx h1 h2
      simp only [Option.some.injEq, Prod.mk.injEq] at h
      obtain ⟨rfl, rfl⟩ := h
      obtain ⟨d, hd⟩ := tyKnown_some ht h2
      simp only [ev_den hA hx, E.den, V.den, C.den]
      simp [convert, run_underlying hd, run_underlying (tyStr_ok ht h1)]
    · cases h
  case index T x i =>
    split at h
    · rename_i l k n hx hi h1
      simp only [Option.some.injEq, Prod.mk.injEq] at h
      obtain ⟨rfl, rfl⟩ := h
      have hu := tyStr_ok ht h1
      simp only [ev_den hA hx, ev_den hA hi, E.den, V.den, C.den]
      have hn : n.toNat < l.length := by omega
      have hsz : (⟨l.toArray⟩ : ByteArray).size = l.length := rfl
      have hg : (⟨l.toArray⟩ : ByteArray)[n.toNat]? = some (l.getD n.toNat 0) := by
        rw [getElem?_pos _ _ (by omega)]
        simp only [List.getD_eq_getElem?_getD, List.getElem?_eq_getElem hn, Option.getD_some]
        rfl
      simp [Instr.index, asIntOf, run_underlying hu, hp.1, hg]
    · cases h
  case slice T x lo hi mx =>
    cases mx <;> try simp only [sv, reduceCtorEq] at h
    split at h
    · rename_i l hx
      split at h
      · rename_i av bv ha hb h1
        simp only [Option.some.injEq, Prod.mk.injEq] at h
        obtain ⟨rfl, rfl⟩ := h
        have hu := tyStr_ok ht h1
        obtain ⟨p1, p2, p3⟩ := hp
        obtain ⟨an, rfl⟩ := Int.eq_ofNat_of_zero_le p1
        obtain ⟨bn, rfl⟩ := Int.eq_ofNat_of_zero_le (Int.le_trans p1 p2)
        have hsz : (⟨l.toArray⟩ : ByteArray).size = l.length := rfl
        have hex := extract_mk l an bn
        have p2' : an ≤ bn := by omega
        have p3' : bn ≤ l.length := by omega
        simp only [ev_den hA hx, E.den, V.den, C.den, Int.toNat_natCast]
        cases lo with
        | none =>
          simp only [evN, Option.some.injEq] at ha
          have ha' : an = 0 := by omega
          subst ha'
          cases hi with
          | none =>
            simp only [evN, Option.some.injEq] at hb
            have hb' : bn = l.length := by omega
            subst hb'
            simp [Instr.sliceAt, Instr.slice, run_underlying hu, Instr.sliceBounds, hsz, hex, slS]
          | some y =>
            obtain ⟨k2, hk2⟩ := evN_den hA hb
            simp [Instr.sliceAt, Instr.slice, run_underlying hu, Instr.sliceBounds, hsz, hex, hk2, Instr.sliceBound, asIntOf, p3']
        | some x =>
          obtain ⟨k1, hk1⟩ := evN_den hA ha
          cases hi with
          | none =>
            simp only [evN, Option.some.injEq] at hb
            have hb' : bn = l.length := by omega
            subst hb'
            simp [Instr.sliceAt, Instr.slice, run_underlying hu, Instr.sliceBounds, hsz, hex, hk1, Instr.sliceBound, asIntOf, p2']
          | some y =>
            obtain ⟨k2, hk2⟩ := evN_den hA hb
            simp [Instr.sliceAt, Instr.slice, run_underlying hu, Instr.sliceBounds, hsz, hex, hk1, hk2, Instr.sliceBound, asIntOf, p2', p3']
      · cases h
    · cases h
  case indexAddr T x i =>
    split at h
    · rename_i c k n e1 sz hx hi h1
      split at h
      · rename_i r len sz' hr
        split at h
        · rename_i hd
          simp only [Option.some.injEq, Prod.mk.injEq] at h
          obtain ⟨rfl, rfl⟩ := h
          have hsz : sz = sz' := of_decide_eq_true hd
          subst hsz
          obtain ⟨rfl, hn⟩ := rowOf_len hM hr
          obtain ⟨ad, had⟩ := rowOf_base hM hr (by omega)
          obtain ⟨hu, inf, hi1, hi2⟩ := tyElem_ok ht h1
          simp only [ev_den hA hx, ev_den hA hi, E.den, V.den, C.den, had, hn]
          simp [Instr.indexAt, asIntOf, run_underlying hu, hp, sizeOf, typeInfo, hi1, hi2]
        · cases h
      · cases h
    · cases h

end Go.Proofs.YtaidpalamhmghaaDoor.X
