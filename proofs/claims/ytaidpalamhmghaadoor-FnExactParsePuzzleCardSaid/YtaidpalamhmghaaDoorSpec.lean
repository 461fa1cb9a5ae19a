/- Contracts of functions out of walks; calls; the end of a function. No condition. -/
import Derived.Test.YtaidpalamhmghaaDoorRun
namespace Go.Proofs.YtaidpalamhmghaaDoor.X
open Go.RowKit
set_option linter.unusedVariables false
set_option linter.unusedSimpArgs false

def tyAll (P : Program) : Ty → Prop
  | [] => True
  | p :: r => p.2.ok P p.1 ∧ tyAll P r

theorem tyAll_ok {P : Program} : ∀ {tt : Ty}, tyAll P tt → TyOk P tt
  | [], _, p, hp => by cases hp
  | q :: r, h, p, hp => by
    rcases List.mem_cons.1 hp with h' | h'
    · rw [h']; exact h.1
    · exact tyAll_ok h.2 p h'

/-! ### Picking resources by name -/
def takeN : Mem → Nat → Option (Res × Mem)
  | [], _ => none
  | (k, R) :: m, r => match Nat.beq k r with
    | true => some (R, m)
    | false => match takeN m r with
      | some (S, m') => some (S, (k, R) :: m')
      | none => none

def pickL : Mem → List Nat → Option (Mem × Mem)
  | m, [] => some ([], m)
  | m, r :: rs => match takeN m r with
    | some (R, m') => match pickL m' rs with
      | some (a, b) => some ((r, R) :: a, b)
      | none => none
    | none => none

theorem takeN_perm : ∀ {m : Mem} {r : Nat} {R : Res} {m' : Mem}, takeN m r = some (R, m') → m.Perm ((r, R) :: m')
  | (k, S) :: m, r, R, m', h => by
    simp only [takeN] at h
    split at h
    · rename_i hb
      simp only [Option.some.injEq, Prod.mk.injEq] at h
      obtain ⟨rfl, rfl⟩ := h
      have := Nat.eq_of_beq_eq_true hb
      subst this
      exact .refl _
    · split at h
      · rename_i S' m'' hm
        simp only [Option.some.injEq, Prod.mk.injEq] at h
        obtain ⟨rfl, rfl⟩ := h
        exact (List.Perm.cons _ (takeN_perm hm)).trans (.swap _ _ _)
      · cases h

theorem pickL_perm : ∀ {rs : List Nat} {m a b : Mem}, pickL m rs = some (a, b) → m.Perm (a ++ b)
  | [], m, a, b, h => by simp only [pickL, Option.some.injEq, Prod.mk.injEq] at h; obtain ⟨rfl, rfl⟩ := h; exact .refl _
  | r :: rs, m, a, b, h => by
    simp only [pickL] at h
    split at h
    · rename_i R m' ht
      split at h
      · rename_i a' b' hp
        simp only [Option.some.injEq, Prod.mk.injEq] at h
        obtain ⟨rfl, rfl⟩ := h
        exact (takeN_perm ht).trans (List.Perm.cons _ (pickL_perm hp))
      · cases h
    · cases h

theorem SatW.drop {x : Cx} {ρ : Nm} {a b : Mem} {w : World} (h : SatW x ρ (a ++ b) w) : SatW x ρ a w := by
  obtain ⟨F, hF, h0⟩ := h.mem
  obtain ⟨F1, F2, g1, _, g3, _⟩ := MemSat.append.1 hF
  exact ⟨⟨F1, g3, fun b hb => h0 b ((g1 b).2 (.inl hb))⟩, h.os, h.tape, h.output, h.size, h.keep, h.agr⟩

/-! ### Renaming -/
def rnm (σ : List (Nat × Nat)) (r : Nat) : Nat := match look σ r with
  | some s => s
  | none => r

def C.ren (σ : List (Nat × Nat)) : C → C
  | .ptr r o => .ptr (rnm σ r) o
  | .el r i sz o => .el (rnm σ r) i sz o
  | .sl r => .sl (rnm σ r)
  | .sub r lo sz len => .sub (rnm σ r) lo sz len
  | .mp r => .mp (rnm σ r)
  | .fn f caps => .fn f (caps.map (rnm σ))
  | .ins r i => .ins (rnm σ r) i
  | .eli r i j sz o => .eli (rnm σ r) i j sz o
  | c => c

def V.ren (σ : List (Nat × Nat)) : V → V
  | .c x => .c (x.ren σ)
  | .agg l => .agg (l.map (C.ren σ))

def E.ren (σ : List (Nat × Nat)) : E → E
  | .v x => .v (x.ren σ)
  | .tup l => .tup (l.map (V.ren σ))
  | .und => .und

def Ext.ren (σ : List (Nat × Nat)) : Ext → Ext
  | .rg m kd es rem => .rg (rnm σ m) kd es rem
  | .nest T T2 sz ess hs => .nest T T2 sz ess (hs.map fun p => (p.1, rnm σ p.2))
  | X => X

def Res.ren (σ : List (Nat × Nat)) : Res → Res
  | .ext X => .ext (X.ren σ)
  | .box T cs => .box T (cs.map (C.ren σ))
  | R => R

def renM (σ : List (Nat × Nat)) (m : Mem) : Mem := m.map fun p => (rnm σ p.1, p.2.ren σ)

def Nm.comp (ρ : Nm) (σ : List (Nat × Nat)) : Nm := ⟨fun r => ρ.adr (rnm σ r), fun r => ρ.rb (rnm σ r), fun r => ρ.rn (rnm σ r), fun r => ρ.rc (rnm σ r), fun r => ρ.rv (rnm σ r)⟩

theorem C.den_ren (ρ : Nm) (σ : List (Nat × Nat)) (c : C) : (c.ren σ).den ρ = c.den (ρ.comp σ) := by
  cases c <;> try rfl
  simp [C.ren, C.den, Nm.comp, List.map_map, Function.comp_def]

theorem C.den_list_ren (ρ : Nm) (σ : List (Nat × Nat)) (l : List C) : (l.map (C.ren σ)).map (C.den ρ) = l.map (C.den (ρ.comp σ)) := by
  rw [List.map_map]; exact List.map_congr_left fun c _ => c.den_ren ρ σ

theorem V.den_ren (ρ : Nm) (σ : List (Nat × Nat)) (v : V) : (v.ren σ).den ρ = v.den (ρ.comp σ) := by
  cases v with
  | c x => exact x.den_ren ρ σ
  | agg l => simp only [V.ren, V.den, C.den_list_ren]

theorem E.den_ren (ρ : Nm) (σ : List (Nat × Nat)) (e : E) : (e.ren σ).den ρ = e.den (ρ.comp σ) := by
  cases e with
  | v x => exact x.den_ren ρ σ
  | tup l =>
    simp only [E.ren, E.den, List.map_map]
    congr 2
    exact List.map_congr_left fun v _ => v.den_ren ρ σ
  | und => rfl

theorem holeAt_ren (σ : List (Nat × Nat)) : ∀ (hs : List (Nat × Nat)) (i : Nat), holeAt (hs.map fun p => (p.1, rnm σ p.2)) i = (holeAt hs i).map (rnm σ)
  | [], _ => rfl
  | (k, z) :: r, i => by
    simp only [List.map_cons, holeAt]
    split
    · rfl
    · exact holeAt_ren σ r i
theorem InnerAt.ren {ρ : Nm} {σ : List (Nat × Nat)} {f : Nat → Option Addr × Nat × Nat} {T : TypeId} {sz : Nat} {h : Option Nat} {i : Nat} {es : List (List C)} {w : World} {F : Nat → Prop} (hh : InnerAt ρ f T sz (h.map (rnm σ)) i es w F) : InnerAt (ρ.comp σ) f T sz h i es w F := by
  cases h with
  | none => exact ⟨hh.1, hh.2.congr⟩
  | some z => exact hh
theorem NestIn.ren {ρ : Nm} {σ : List (Nat × Nat)} {f : Nat → Option Addr × Nat × Nat} {T : TypeId} {sz : Nat} {hs : List (Nat × Nat)} {w : World} : ∀ {ess : List (List (List C))} {i : Nat} {F : Nat → Prop}, NestIn ρ f T sz (hs.map fun p => (p.1, rnm σ p.2)) i ess w F → NestIn (ρ.comp σ) f T sz hs i ess w F
  | [], _, _, h => h
  | es :: rest, i, F, h => by
    obtain ⟨F1, F2, h1, h2, h3, h4⟩ := h
    rw [holeAt_ren] at h3
    exact ⟨F1, F2, h1, h2, h3.ren, h4.ren⟩
theorem Res.holds_ren {ρ : Nm} {σ : List (Nat × Nat)} {r : Nat} {w : World} {F : Nat → Prop} {R : Res} (h : Res.holds ρ (rnm σ r) w F (R.ren σ)) : R.holds (ρ.comp σ) r w F := by
  cases R with
  | box T cs =>
    refine ⟨h.1, ?_⟩
    have := h.2
    simp only [C.den_list_ren] at this
    exact this
  | sl T sz es => exact ⟨h.1, h.2.1, h.2.2.imp (fun h' => ⟨h'.1, by rw [← flat_congr (ρ := ρ) h.1]; exact h'.2⟩) id⟩
  | ro o T sz es =>
    obtain ⟨g1, g2, grc, g3⟩ := h
    refine ⟨g1, g2, grc, ?_⟩
    rw [← flat_congr (ρ := ρ) g1]; exact g3
  | pr p loc lt => exact h
  | ext X =>
    cases X with
    | fx T sz es =>
      obtain ⟨a1, a2, a3, g, cur, fr, a4, a5, a6, a7, a8, a9⟩ := h
      exact ⟨a1, a2, a3, g, cur, fr, a4, a5, a6, a7, a8, by rw [← flat_congr (ρ := ρ) a1]; exact a9⟩
    | mp kd es =>
      obtain ⟨a1, ents, clock, a2, a3⟩ := h
      exact ⟨a1, ents, clock, a2, a3.congr⟩
    | rg m kd es rem =>
      obtain ⟨a0, a1, ents, clock, seen, a2, a3, a4, a5, a6⟩ := h
      exact ⟨a0, a1, ents, clock, seen, a2, a3.congr, a4, a5, a6.trans (pairs_congr a5 _ _)⟩
    | it l pos => exact h
    | nest T T2 sz ess hs =>
      obtain ⟨a0, F0, F1, a1, a2, a3, a4⟩ := h
      exact ⟨a0, F0, F1, a1, a2, a3, NestIn.ren a4⟩

theorem MemSat.ren {ρ : Nm} {σ : List (Nat × Nat)} : ∀ {m : Mem} {w : World} {F : Nat → Prop}, MemSat ρ (renM σ m) w F → MemSat (ρ.comp σ) m w F
  | [], _, _, h => h
  | (r, R) :: m, w, F, h => by
    obtain ⟨F1, F2, hF, hd, hR, hm⟩ := h
    exact ⟨F1, F2, hF, hd, Res.holds_ren hR, MemSat.ren hm⟩

theorem SatW.ren {x : Cx} {ρ : Nm} {σ : List (Nat × Nat)} {m : Mem} {w : World} (hD : (x.D0.all fun r => (look σ r).isNone) = true) (h : SatW x ρ (renM σ m) w) : SatW x (ρ.comp σ) m w := by
  obtain ⟨F, hF, h0⟩ := h.mem
  refine ⟨⟨F, hF.ren, h0⟩, h.os, h.tape, h.output, h.size, h.keep, fun r hr => ?_⟩
  have := List.all_eq_true.1 hD r hr
  have e : rnm σ r = r := by
    unfold rnm
    cases hl : look σ r with
    | none => rfl
    | some s => rw [hl] at this; cases this
  have := h.agr r hr
  simpa [Nm.agree, Nm.comp, e] using this

def subEnv (σ : List (Nat × Nat)) (s : Env) : Env → Prop
  | [] => True
  | (d, e) :: r => look s d = some (e.ren σ) ∧ subEnv σ s r

theorem subEnv_get {σ : List (Nat × Nat)} {s : Env} : ∀ {t : Env}, subEnv σ s t → ∀ {d : Nat} {e : E}, (d, e) ∈ t → look s d = some (e.ren σ)
  | [], _, _, _, h => by cases h
  | p :: t, hs, d, e, h => by
    rcases List.mem_cons.1 h with h | h
    · subst h; exact hs.1
    · exact subEnv_get hs.2 h

theorem Sub.mk {D0 : List Nat} {s t : St} (σ : List (Nat × Nat)) (rest : Mem) (henv : subEnv σ s.env t.env) (hmem : pickL s.mem (memNames (renM σ t.mem)) = some (renM σ t.mem, rest))
    (hD : (D0.all fun r => (look σ r).isNone) = true) : Sub D0 s t := by
  intro N x ρ a w hx hA hW
  refine ⟨ρ.comp σ, ⟨hA.dfr, hA.size, fun d e he => ?_⟩, ?_⟩
  · rw [hA.env d _ (subEnv_get henv (look_mem he)), E.den_ren]
  · exact SatW.ren (hx ▸ hD) (hW.perm (pickL_perm hmem)).drop

/-! ### The end of a function -/
def resV (tt : Ty) (env : Env) (mem : Mem) : List ResultVar → Option (List V)
  | [] => some []
  | .tmp t :: r => match look env t, resV tt env mem r with
    | some (.v v), some l => some (v :: l)
    | _, _ => none
  | .cell ad T :: r => match look env ad, resV tt env mem r with
    | some (.v (.c (.ptr q off))), some l => match look mem q with
      | some (.box _ cs) => match loadC tt T cs off with
        | some v => some (v :: l)
        | none => none
      | _ => none
    | _, _ => none

def resF (tmps : Array Value) : ResultVar → Sem Value
  | .tmp t => pure (tmps.getD t undef)
  | .cell ad T => do loadVar T (← asAddr (tmps.getD ad undef))

theorem resV_run {P : Program} {tt : Ty} (ht : TyOk P tt) {N : Nat} {ρ : Nm} {env : Env} {mem : Mem} {a : Act} {w : World} {F : Nat → Prop} (hA : SatA N ρ env a) (hM : MemSat ρ mem w F) :
    ∀ {rs : List ResultVar} {vs : List V}, resV tt env mem rs = some vs →
      (rs.mapM (resF a.tmps)).run P w = .ok (vs.map (V.den ρ)) w
  | [], vs, h => by simp only [resV, Option.some.injEq] at h; subst h; rfl
  | .tmp t :: r, vs, h => by
    simp only [resV] at h
    split at h
    · rename_i v l hv hl
      obtain rfl := Option.some.inj h
      have := hA.env t _ hv
      have e1 : (resF a.tmps (.tmp t)).run P w = .ok (v.den ρ) w := by simp only [resF, this]; rfl
      simp only [List.mapM_cons, Sem.run_bind, Sem.run_pure, e1, Result.andThen_ok, resV_run ht hA hM hl, List.map_cons]
    · cases h
  | .cell ad T :: r, vs, h => by
    simp only [resV] at h
    split at h
    · rename_i q off l hv hl
      split at h
      · rename_i T' cs hq
        split at h
        · rename_i v hlo
          obtain rfl := Option.some.inj h
          have hv' := hA.env ad _ hv
          obtain ⟨F', hR, _⟩ := hM.get hq
          have hrun := loadC_run ht (ρ := ρ) (ad := ⟨ρ.adr q, 0, none⟩) (w := w) (fun j c hj => box_cell hR hj) hlo
          rw [add_none] at hrun
          simp only [Nat.zero_add] at hrun
          have e1 : (resF a.tmps (.cell ad T)).run P w = .ok (v.den ρ) w := by
            simp only [resF, hv', E.den, V.den, C.den, asAddr, Sem.run_bind, Sem.run_pure, Result.andThen_ok, hrun]
          simp only [List.mapM_cons, Sem.run_bind, Sem.run_pure, e1, Result.andThen_ok, resV_run ht hA hM hl, List.map_cons]
        · cases h
      · cases h
    · cases h

def RSub (D0 : List Nat) (vals : List V) (mem : Mem) (vs : List V) (m : Mem) : Prop :=
  ∀ x ρ w, x.D0 = D0 → SatW x ρ mem w → ∃ ρ', SatW x ρ' m w ∧ pk ρ vals = pk ρ' vs

structure RetVC (D0 : List Nat) (vals : List V) (mem : Mem) (post : List V → Mem → Prop) : Prop where
  make ::
  out : ∃ vs m, post vs m ∧ RSub D0 vals mem vs m

def retK (tt : Ty) (D0 : List Nat) (rs : List ResultVar) (post : List V → Mem → Prop) : Exit → St → Prop
  | .normal, s | .ret, s => match resV tt s.env s.mem rs with
    | some vs => RetVC D0 vs s.mem post
    | none => False
  | _, _ => False

theorem RetVC.mk {D0 : List Nat} {vals : List V} {mem m rest : Mem} {post : List V → Mem → Prop} (hm : pickL mem (memNames m) = some (m, rest)) (h : post vals m) : RetVC D0 vals mem post := by
  constructor
  exact ⟨vals, m, h, fun x ρ w hx hW => ⟨ρ, (hW.perm (pickL_perm hm)).drop, rfl⟩⟩

theorem pk_ren (ρ : Nm) (σ : List (Nat × Nat)) (vs : List V) : pk ρ (vs.map (V.ren σ)) = pk (ρ.comp σ) vs := by
  match vs with
  | [] => rfl
  | [v] => exact v.den_ren ρ σ
  | v :: u :: l =>
    simp only [pk, List.map_cons, List.map_map]
    congr 2
    simp only [List.cons.injEq]
    exact ⟨v.den_ren ρ σ, u.den_ren ρ σ, List.map_congr_left fun v _ => v.den_ren ρ σ⟩

/-- The results under other names. -/
theorem RetVC.ren {D0 : List Nat} {vals : List V} {mem rest : Mem} {post : List V → Mem → Prop} (σ : List (Nat × Nat)) (vs : List V) (m : Mem) (hv : vals = vs.map (V.ren σ))
    (hm : pickL mem (memNames (renM σ m)) = some (renM σ m, rest)) (hD : (D0.all fun r => (look σ r).isNone) = true) (h : post vs m) : RetVC D0 vals mem post := by
  constructor
  refine ⟨vs, m, h, fun x ρ w hx hW => ⟨ρ.comp σ, SatW.ren (hx ▸ hD) (hW.perm (pickL_perm hm)).drop, ?_⟩⟩
  rw [hv]; exact pk_ren ρ σ vs

def argEnv : Nat → List V → Env
  | _, [] => []
  | i, v :: r => (i, .v v) :: argEnv (i + 1) r

theorem argEnv_get : ∀ {l : List V} {i d : Nat} {e : E}, look (argEnv i l) d = some e → ∃ j v, d = i + j ∧ l[j]? = some v ∧ e = .v v
  | [], i, d, e, h => by cases h
  | v :: r, i, d, e, h => by
    simp only [argEnv, look] at h
    cases hb : Nat.beq i d with
    | true =>
      rw [hb] at h
      obtain rfl := Option.some.inj h
      have := Nat.eq_of_beq_eq_true hb
      exact ⟨0, v, by omega, rfl, rfl⟩
    | false =>
      rw [hb] at h
      obtain ⟨j, v', h1, h2, h3⟩ := argEnv_get h
      exact ⟨j + 1, v', by omega, by simpa using h2, h3⟩

theorem Spec.of_wpx {P : Program} {tt : Ty} (ht : TyOk P tt) {f : FuncId} {fn : Func} {c : Code} {args : List V} {pre : Mem} {post : List V → Mem → Prop}
    (hf : P.funcs[f]? = some fn) (hn : (fn.name == "runtime.NumGoroutine") = false) (hb : fn.body = some c)
    (h : wpx P tt (args.length + (fn.ntmps - args.length)) (memNames pre) c ⟨argEnv 0 args, pre⟩ (retK tt (memNames pre) fn.results.toList post)) : Spec P f args pre post := by
  refine ⟨⟨fn, hf, hn, by rw [hb]; rfl⟩, fun ρ w F hM => ?_⟩
  refine calls_of_wp hf hb ?_
  have hA : SatA (args.length + (fn.ntmps - args.length)) ρ (argEnv 0 args) { tmps := (args.map (V.den ρ)).toArray ++ Array.replicate (fn.ntmps - (args.map (V.den ρ)).toArray.size) undef, defers := [] } := by
    refine ⟨rfl, by simp, fun d e he => ?_⟩
    obtain ⟨j, v, h1, h2, rfl⟩ := argEnv_get he
    have hj : j < args.length := (List.getElem?_eq_some_iff.1 h2).1
    have : d = j := by omega
    subst this
    simp only [Array.getD_eq_getD_getElem?, Array.getElem?_append, List.size_toArray, List.length_map, hj, if_true]
    simp [h2, E.den]
  have hW : SatW ⟨w, F, ρ, memNames pre⟩ ρ pre w := ⟨⟨F, hM, fun b hb => .inl hb⟩, rfl, rfl, rfl, Nat.le_refl _, fun _ _ _ => rfl, fun r _ => .refl ρ r⟩
  refine wpx_sound (x := ⟨w, F, ρ, memNames pre⟩) ht c h hA hW fun e st' ρ' a' w' hK hA' hW' => ?_
  have fin : ∀ (hres : match resV tt st'.env st'.mem fn.results.toList with | some vs => RetVC (memNames pre) vs st'.mem post | none => False),
      a'.defers = [] ∧ ∃ v, (results fn a'.tmps).run P w' = .ok v w' ∧ (fun e w' => ∃ ρ' vs m F', post vs m ∧ e = .returned (pk ρ' vs) ∧ MemSat ρ' m w' F' ∧ (∀ b, F' b → F b ∨ w.heap.size ≤ b) ∧ Frm F w w' ∧ ∀ r ∈ memNames pre, ρ.agree ρ' r) (Ending.returned v) w' := fun hres => by
    refine ⟨hA'.dfr, ?_⟩
    split at hres
    · rename_i vals hvals
      obtain ⟨F1, hF1, _⟩ := hW'.mem
      have hrun := resV_run ht hA' hF1 hvals
      have hr : (results fn a'.tmps).run P w' = .ok (pk ρ' vals) w' := by
        have e0 : results fn a'.tmps = (do let vs ← fn.results.mapM (resF a'.tmps); pure (if h : vs.size = 1 then vs[0] else .tuple vs) : Sem Value) := by
          unfold results
          congr 1
        rw [e0]
        have e1 : fn.results = fn.results.toList.toArray := by simp
        rw [e1, List.mapM_toArray]
        simp only [Sem.run_bind, Sem.run_map, hrun, Result.andThen_ok, Sem.run_pure]
        congr 1
        match vals with
        | [] => rfl
        | [v] => rfl
        | v :: u :: l => simp [pk]
      replace hres := hres.out
      obtain ⟨vs, m, hpost, hsub⟩ := hres
      obtain ⟨ρ'', hW'', hpk⟩ := hsub _ ρ' w' rfl hW'
      obtain ⟨F'', hF'', hF0⟩ := hW''.mem
      exact ⟨_, hr, ρ'', vs, m, F'', hpost, by rw [hpk], hF'', hF0, ⟨hW''.os, hW''.tape, hW''.output, hW''.size, hW''.keep⟩, hW''.agr⟩
    · exact hres.elim
  cases e with
  | normal => exact fin hK
  | ret => exact fin hK
  | _ => exact hK.elim

/-! ### Calls: the usual cases -/
def isRes (res : List V) (pre : Mem) : List V → Mem → Prop := fun vs m => vs = res ∧ m = pre

theorem RetVC.res {D0 : List Nat} {vals res : List V} {mem pre rest : Mem} (hv : vals = res) (hm : pickL mem (memNames pre) = some (pre, rest)) : RetVC D0 vals mem (isRes res pre) :=
  RetVC.mk hm ⟨hv, rfl⟩

theorem CondVC.ndec {p : Prop} [Decidable p] {t e : Prop} (h1 : ¬ p → t) (h2 : p → e) : CondVC (!(decide p)) t e := CondVC.neg (CondVC.dec h2 h1)

theorem CallVC.by {P : Program} {D0 : List Nat} {f : FuncId} {args : List V} {env : Env} {mem : Mem} {K : List V → Mem → Prop} (h : CallBy P D0 f args env mem K) : CallVC P D0 f args env mem K := by
  constructor
  refine ⟨?_, fun x ρ w R hx hW hk => ?_⟩
  · obtain ⟨pre, rest, post, _, hs, _⟩ := h.out
    exact hs.1
  · subst hx
    exact callvc_wp (fun _ _ => trivial) hW h hk

theorem CallVC.mk {P : Program} {D0 : List Nat} {f : FuncId} {args : List V} {env : Env} {mem : Mem} {K : List V → Mem → Prop} {pre rest : Mem} {post : List V → Mem → Prop}
    (L : List Nat) (hp : pickL mem L = some (pre, rest)) (hs : Spec P f args pre post) (hk : ∀ vs m, post vs m → okRes D0 env rest (memNames pre) vs m = true ∧ K vs (m ++ rest)) : CallVC P D0 f args env mem K := by
  apply CallVC.by
  constructor
  exact ⟨pre, rest, post, pickL_perm hp, hs, hk⟩

/-- A call that needs no memory and hands back plain values. -/
theorem CallVC.pure {P : Program} {D0 : List Nat} {f : FuncId} {args : List V} {env : Env} {mem : Mem} {K : List V → Mem → Prop} {res : List V}
    (hs : Spec P f args [] (isRes res [])) (hn : res.flatMap V.names = []) (hk : K res mem) : CallVC P D0 f args env mem K :=
  CallVC.mk [] rfl hs fun vs m ⟨h1, h2⟩ => by subst h1; subst h2; exact ⟨by simp [okRes, memNames, resNames, hn], hk⟩

end Go.Proofs.YtaidpalamhmghaaDoor.X
