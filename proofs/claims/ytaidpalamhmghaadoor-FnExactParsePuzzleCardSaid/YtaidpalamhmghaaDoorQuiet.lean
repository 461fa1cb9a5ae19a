/- Regions whose order is open and which leave memory as it is. No condition. -/
import Derived.Test.YtaidpalamhmghaaDoorSpec
namespace Go.Proofs.YtaidpalamhmghaaDoor.X
open Go.RowKit
set_option linter.unusedVariables false
set_option linter.unusedSimpArgs false

/-! ### A region whose order is open and whose operations leave memory as it is -/
structure QCallVC (P : Program) (f : FuncId) (args : List V) (mem : Mem) (K : List V → Prop) : Prop where
  make ::
  out : ∃ pre rest res, mem.Perm (pre ++ rest) ∧ Spec P f args pre (isRes res pre) ∧ ((resNames res pre).all fun r => hasN (memNames pre) r) = true ∧ K res

def exQM (P : Program) (tt : Ty) (o : Oper) (env : Env) (mem : Mem) (k : Env → Prop) : Prop := match o.op with
  | .load T x => match ev env x with
    | some (.v (.c (.ptr r off))) => match look mem r with
      | some (.box _ cs) => match loadC tt T cs off with
        | some v => k (putE env o.dst (.v v))
        | none => False
      | _ => False
    | some (.v (.c (.el r i sz off))) => match rowRes mem r with
      | some (sz', es) => match decide (sz = sz') with
        | true => LoadVC es i fun x => match loadC tt T x off with
          | some v => k (putE env o.dst (.v v))
          | none => False
        | false => False
      | none => False
    | _ => False
  | .call ⟨.value fx, args, _⟩ => match ev env fx, evs env args.toList with
    | some (.v (.c (.fn f caps))), some vs => QCallVC P f (vs ++ capV caps) mem fun rs => k (putE env o.dst (resE rs))
    | _, _ => False
  | .pick c x y => match ev env c with
    | some (.v (.c (.bool b))) => CondVC b
        (match ev env x with
          | some e => k (putE env o.dst e)
          | none => False)
        (match ev env y with
          | some e => k (putE env o.dst e)
          | none => False)
    | _ => False
  | _ => False

def exQ (P : Program) (tt : Ty) (o : Oper) (env : Env) (mem : Mem) (k : Env → Prop) : Prop :=
  match pv tt env mem o.op with
  | some e => k (putE env o.dst e)
  | none => match av tt env o.op with
    | some (kd, n) => ArVC kd n fun m => k (putE env o.dst (.v (.c (.int kd m))))
    | none => match sv tt env mem o.op with
      | some (p, e) => SideVC p (k (putE env o.dst e))
      | none => exQM P tt o env mem k

def strictE (k : Env → Prop) (env : Env) : Prop := fEnv env k

theorem strictE_fn (k : Env → Prop) : strictE k = k := funext fun env => fEnv_eq env k

def wplQStep (P : Program) (tt : Ty) (N : Nat) (ops : Array Oper) (mem : Mem) (o : Oper) (next : Env → Prop) (env : Env) : Prop :=
  match dstOk N o.dst with
    | false => False
    | true => match o.guard with
      | none => exQ P tt o env mem (strictE next)
      | some (j, want) => match guardOf ops env j with
        | .skip => strictE next (putE env o.dst .und)
        | .known d b => match want with
          | true => CondVC b
              (exQ P tt o ((d, .v (.c (.bool true))) :: env) mem (strictE next))
              (strictE next (putE ((d, .v (.c (.bool false))) :: env) o.dst .und))
          | false => CondVC b
              (strictE next (putE ((d, .v (.c (.bool true))) :: env) o.dst .und))
              (exQ P tt o ((d, .v (.c (.bool false))) :: env) mem (strictE next))
        | .unknown => False

@[reducible] def wplQ (P : Program) (tt : Ty) (N : Nat) (ops : Array Oper) (mem : Mem) (k : Env → Prop) (l : List Oper) : Env → Prop :=
  List.rec (motive := fun _ => Env → Prop) (fun env => k env) (fun o _ next env => wplQStep P tt N ops mem o next env) l

section
variable {P : Program} {tt : Ty} {N : Nat} {x : Cx}

theorem SatW.drewW {ρ : Nm} {mem : Mem} {w : World} (h : SatW x ρ mem w) : SatW x ρ mem { w with drawn := w.drawn + 1 } := by
  obtain ⟨F, hF, h0⟩ := h.mem
  exact ⟨⟨F, hF.frame (w := w) (fun b _ => rfl), h0⟩, h.os, h.tape, h.output, h.size, h.keep, h.agr⟩

theorem quiet_value {o : Oper} {a : Act} {ρ : Nm} {env : Env} {mem : Mem} {e : E} {K : Act → Prop} (hv : ∀ w, SatW x ρ mem w → (execOp a.eval o).run P w = .ok (.value (e.den ρ)) w)
    (hk : K (a.put o.dst (e.den ρ))) : o.quiet P a (SatW x ρ mem) K :=
  ⟨_, fun w hw => by unfold Oper.quietAt; rw [hv w hw]; exact ⟨rfl, rfl⟩, hk⟩

theorem qcall_quiet {f : FuncId} {args : List V} {mem : Mem} {ρ : Nm} {K : List V → Prop} (h : QCallVC P f args mem K) :
    FnOk P f ∧ ∃ res, K res ∧ ∀ w, SatW x ρ mem w → Calls P f (args.map (V.den ρ)).toArray w fun e w' => e = .returned (pk ρ res) ∧ SatW x ρ mem w' := by
  obtain ⟨pre, rest, res, hp, hs, hok, hK⟩ := h.out
  refine ⟨hs.1, res, hK, fun w hW => ?_⟩
  obtain ⟨F, hF, hF0⟩ := hW.mem
  obtain ⟨F1, F2, g1, g2, g3, g4⟩ := MemSat.append.1 (hF.perm hp)
  refine (hs.run ρ w F1 g3).mono ?_
  rintro e w' ⟨ρ', vs, m, F', ⟨rfl, rfl⟩, rfl, q3, q4, q5, q6⟩
  simp only [List.all_eq_true] at hok
  have hasN_mem : ∀ {l : List Nat} {d : Nat}, hasN l d = true → d ∈ l := fun {l d} h => by
    obtain ⟨y, hy, hb⟩ := List.any_eq_true.1 h
    have := Nat.eq_of_beq_eq_true hb
    exact this ▸ hy
  have hag : ∀ r ∈ resNames vs m, ρ'.agree ρ r := fun r hr => (q6 r (hasN_mem (hok r hr))).symm
  have hval : pk ρ' vs = pk ρ vs := by
    have hv : ∀ v ∈ vs, v.den ρ' = v.den ρ := fun v hv => v.den_congr fun r hr => hag r (List.mem_append.2 (.inl (List.mem_flatMap.2 ⟨v, hv, hr⟩)))
    unfold pk
    split
    · exact hv _ (by simp)
    · rw [List.map_congr_left hv]
  refine ⟨by rw [hval], ?_⟩
  have hlt : ∀ b, F2 b → b < w.heap.size := fun b hb => g4.lt hb
  refine SatW.perm hp.symm ⟨⟨fun b => F' b ∨ F2 b, ?_, fun b hb => ?_⟩, q5.os.trans hW.os, q5.tape.trans hW.tape, q5.output.trans hW.output, Nat.le_trans hW.size q5.size, fun b k1 k2 => ?_, hW.agr⟩
  · refine MemSat.append.2 ⟨F', F2, fun _ => Iff.rfl, fun b k1 k2 => ?_, ?_, g4.frame fun b hb => q5.keep b (hlt b hb) fun h => g2 b h hb⟩
    · rcases q4 b k1 with h | h
      · exact g2 b h k2
      · have := hlt b k2; omega
    · exact q3.congr fun p hp => ⟨(q6 p.1 (List.mem_map.2 ⟨p, hp, rfl⟩)).symm, fun r hr => hag r (List.mem_append.2 (.inr (List.mem_flatMap.2 ⟨p, hp, hr⟩)))⟩
  · rcases hb with hb | hb
    · rcases q4 b hb with h | h
      · exact hF0 b ((g1 b).2 (.inl h))
      · exact .inr (Nat.le_trans hW.size h)
    · exact hF0 b ((g1 b).2 (.inr hb))
  · rw [q5.keep b (Nat.lt_of_lt_of_le k1 hW.size) fun h => ?_]
    · exact hW.keep b k1 k2
    · rcases hF0 b ((g1 b).2 (.inl h)) with h' | h'
      · exact k2 h'
      · omega

theorem exQ_sound (ht : TyOk P tt) {o : Oper} {env : Env} {mem : Mem} {k : Env → Prop} {a : Act} {w : World} {ρ : Nm} {next : Act → Prop}
    (hd : dstOk N o.dst = true) (hA : SatA N ρ env a) (hW : SatW x ρ mem w) (h : exQ P tt o env mem k)
    (hk : ∀ env' a', k env' → SatA N ρ env' a' → next a') : o.quiet P a (SatW x ρ mem) next := by
  have val : ∀ (e : E), k (putE env o.dst e) → (∀ w, SatW x ρ mem w → (execOp a.eval o).run P w = .ok (.value (e.den ρ)) w) → o.quiet P a (SatW x ρ mem) next := fun e h1 h2 =>
    quiet_value (env := env) h2 (hk _ _ h1 (hA.put hd e))
  unfold exQ at h
  split at h
  · rename_i e he
    exact val e h fun w hW => by obtain ⟨F, hF, _⟩ := hW.mem; exact pv_run ht hA hF he
  · split at h
    · rename_i kd n he
      replace h := h.out
      exact val (.v (.c (.int kd (kd.wrap n)))) h fun w hW => av_run ht hA he
    · split at h
      · rename_i p e he
        replace h := h.out
        exact val e h.2 fun w hW => by obtain ⟨F, hF, _⟩ := hW.mem; exact sv_run ht hA hF he h.1
      · unfold exQM at h
        generalize ho : o.op = op at h
        cases op <;> try (simp only at h; done)
        case load T y =>
          dsimp only at h
          have fin : ∀ (v : V), (∀ w, SatW x ρ mem w → ∃ ad, a.eval y = .pointer (some ad) ∧ (loadVar T ad).run P w = .ok (v.den ρ) w) → k (putE env o.dst (.v v)) → o.quiet P a (SatW x ρ mem) next := fun v h1 h2 =>
            val (.v v) h2 fun w hW => by
              obtain ⟨ad, h3, h4⟩ := h1 w hW
              simp [execOp, ho, h3, Instr.loadAt, Instr.sureAddr, h4, E.den]
          split at h
          · rename_i r off hy
            split at h
            · rename_i T' cs hl
              split at h
              · rename_i v hv
                refine fin v (fun w hW => ?_) h
                obtain ⟨F, hF, _⟩ := hW.mem
                obtain ⟨F', hR, _⟩ := hF.get hl
                have := loadC_run ht (ρ := ρ) (ad := ⟨ρ.adr r, 0, none⟩) (w := w) (fun j c hj => box_cell hR hj) hv
                refine ⟨_, ev_den hA hy, ?_⟩
                rw [add_none] at this
                simpa using this
              · exact h.elim
            · exact h.elim
          · rename_i r i sz off hy
            split at h
            · rename_i sz' es hl
              split at h
              · rename_i hsz
                have hsz' : sz = sz' := of_decide_eq_true hsz
                subst hsz'
                obtain ⟨xx, hx, h⟩ := h.out
                split at h
                · rename_i v hv
                  refine fin v (fun w hW => ?_) h
                  obtain ⟨F, hF, _⟩ := hW.mem
                  obtain ⟨RR, hl', hir⟩ := rowRes_is hl
                  obtain ⟨F', hR, _⟩ := hF.get hl'
                  have := loadC_run ht (ρ := ρ) (ad := ((ρ.rb r).getD ⟨0, 0, none⟩).add (i * sz)) (w := w) (fun j c hj => hir.cell hR hx hj) hv
                  refine ⟨_, ev_den hA hy, ?_⟩
                  rw [Addr.add_add'] at this
                  exact this
                · exact h.elim
              · exact h.elim
            · exact h.elim
          · exact h.elim
        case pick c y z =>
          dsimp only at h
          split at h
          · rename_i b hc
            replace h := h.out
            have fin : ∀ y', (match ev env y' with | some e => k (putE env o.dst e) | none => False) → a.eval y' = (if b = true then a.eval y else a.eval z) → o.quiet P a (SatW x ρ mem) next := fun y' h h2 => by
              split at h
              · rename_i e he
                refine val e h fun w hW => ?_
                simp [execOp, ho, ev_den hA hc, E.den, V.den, C.den, asBool, ← h2, ev_den hA he]
              · exact h.elim
            cases b with
            | true => exact fin y (h.1 rfl) rfl
            | false => exact fin z (h.2 rfl) rfl
          · exact h.elim
        case call c =>
          obtain ⟨callee, args, tys⟩ := c
          cases callee <;> try (simp only at h; done)
          case value fx =>
            dsimp only at h
            split at h
            · rename_i f caps vs hf hvs
              obtain ⟨⟨fn, hfn, hname, hbody⟩, res, hK, hc⟩ := qcall_quiet (x := x) (ρ := ρ) h
              have hargs : args.map a.eval = (vs.map (V.den ρ)).toArray := by
                have := evs_den hA hvs
                rw [← this, ← Array.toList_map]
              have hcap : (capV caps).map (V.den ρ) = caps.map fun r => Value.pointer (some ⟨ρ.adr r, 0, none⟩) := by
                unfold capV; rw [List.map_map]; rfl
              have hr : ∀ w, (execOp a.eval o).run P w = .ok (.enter f ((vs ++ capV caps).map (V.den ρ)).toArray) w := fun w => by
                simp only [execOp, ho, resolve, ev_den hA hf, E.den, V.den, C.den, Deferred.ofValue, hargs, List.map_append, hcap]
                simp only [invoke, callFunc, Sem.run_bind, Sem.run_pure, run_program, Result.andThen_ok, hfn, hname, hbody, Bool.false_eq_true, if_false]
                simp
              have hpk : pk ρ res = (resE res).den ρ := by
                unfold pk resE
                split <;> rfl
              refine ⟨pk ρ res, fun w hW => ?_, by rw [hpk]; exact hk _ _ hK (hA.put hd _)⟩
              unfold Oper.quietAt
              rw [hr w]
              exact ⟨rfl, hc w hW⟩
            · exact h.elim

theorem wplQ_sound (ht : TyOk P tt) {ops : Array Oper} {ρ : Nm} {mem : Mem} {w : World} (hW : SatW x ρ mem w) {k : Env → Prop} {next : Act → Prop} (hk : ∀ env' a', k env' → SatA N ρ env' a' → next a') :
    ∀ (rest : List Oper) (env : Env) (a : Act), wplQ P tt N ops mem k rest env → SatA N ρ env a → wpQuiet P ops (SatW x ρ mem) next rest a
  | [], env, a, h, hA => wpQuiet_nil (hk env a h hA)
  | o :: rest, env, a, h, hA => by
    replace h : wplQStep P tt N ops mem o (wplQ P tt N ops mem k rest) env := h
    simp only [wplQStep, strictE_fn] at h
    split at h
    · exact h.elim
    · rename_i hd
      have cont : ∀ env', SatA N ρ env' a → exQ P tt o env' mem (wplQ P tt N ops mem k rest) → Region.wanted o (yielded ops a.tmps) = true → wpQuiet P ops (SatW x ρ mem) next (o :: rest) a := fun env' hA' h' hw => by
        unfold wpQuiet
        rw [if_pos hw]
        exact exQ_sound ht hd hA' hW h' fun env'' a' h1 h2 => wplQ_sound ht hW hk rest env'' a' h1 h2
      have skip : ∀ env', SatA N ρ env' a → wplQ P tt N ops mem k rest (putE env' o.dst .und) → Region.wanted o (yielded ops a.tmps) = false → wpQuiet P ops (SatW x ρ mem) next (o :: rest) a := fun env' hA' h' hw => by
        unfold wpQuiet
        rw [if_neg (by rw [hw]; exact Bool.false_ne_true)]
        exact wplQ_sound ht hW hk rest _ _ h' (hA'.put hd .und)
      split at h
      · rename_i hg
        exact cont env hA h (by simp [Region.wanted, hg])
      · rename_i j want hg
        split at h
        · rename_i hs
          exact skip env hA h (by simp [Region.wanted, hg, guard_skip hA hs])
        · rename_i d b hkn
          obtain ⟨hl, hy⟩ := guard_known hA hkn
          split at h
          · replace h := h.out
            cases b with
            | true => exact cont _ (hA.known hl rfl) (h.1 rfl) (by simp [Region.wanted, hg, hy])
            | false => exact skip _ (hA.known hl rfl) (h.2 rfl) (by simp [Region.wanted, hg, hy])
          · replace h := h.out
            cases b with
            | true => exact skip _ (hA.known hl rfl) (h.1 rfl) (by simp [Region.wanted, hg, hy])
            | false => exact cont _ (hA.known hl rfl) (h.2 rfl) (by simp [Region.wanted, hg, hy])
        · exact h.elim

/-- A region whose operations only read, reckon, and call what leaves memory as it is: in the order of the text. -/
theorem DrawVC.quiet {D0 : List Nat} {id : Nat} {ops : Array Oper} {env : Env} {mem : Mem} {k : St → Prop} (ht : TyOk P tt) (hm : P.follows .mixedOrders = true) (hB : Region.lexB .any ops = true)
    (h : wplQ P tt N ops mem (fun env' => k ⟨env', mem⟩) ops.toList env) : DrawVC P N D0 id ops ⟨env, mem⟩ k := by
  constructor
  intro x ρ a w Q hx hA hW hk
  refine wp_region_quiet (C := SatW x ρ mem) hm hB hW.drewW ?_
  exact wplQ_sound ht hW (fun env' a' h1 h2 w' hw' => hk ⟨env', mem⟩ ρ a' w' h1 h2 hw') _ _ _ h hA

theorem QCallVC.mk {f : FuncId} {args : List V} {mem : Mem} {K : List V → Prop} {pre rest : Mem} {res : List V}
    (L : List Nat) (hp : pickL mem L = some (pre, rest)) (hs : Spec P f args pre (isRes res pre)) (hn : ((resNames res pre).all fun r => hasN (memNames pre) r) = true) (hk : K res) : QCallVC P f args mem K :=
  ⟨pre, rest, res, pickL_perm hp, hs, hn, hk⟩

theorem QCallVC.pure {f : FuncId} {args : List V} {mem : Mem} {K : List V → Prop} {res : List V} (hs : Spec P f args [] (isRes res [])) (hn : res.flatMap V.names = []) (hk : K res) : QCallVC P f args mem K :=
  QCallVC.mk [] rfl hs (by simp [resNames, hn]) hk
end

end Go.Proofs.YtaidpalamhmghaaDoor.X
