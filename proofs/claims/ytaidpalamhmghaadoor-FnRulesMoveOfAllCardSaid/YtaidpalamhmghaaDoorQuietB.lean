/- Quiet regions in which structs are built. No condition. -/
import Derived.Test.YtaidpalamhmghaaDoorMore
namespace Go.Proofs.YtaidpalamhmghaaDoor.X
open Go.RowKit
set_option linter.unusedVariables false
set_option linter.unusedSimpArgs false

def exB (P : Program) (tt : Ty) (o : Oper) (env : Env) (mem : Mem) (k : Env → Prop) : Prop := match o.op with
  | .build T parts => match buildC tt env T parts.toList with
    | some cs => k (putE env o.dst (.v (.agg cs)))
    | none => False
  | _ => exQ P tt o env mem k

def wplBStep (P : Program) (tt : Ty) (N : Nat) (ops : Array Oper) (mem : Mem) (o : Oper) (next : Env → Prop) (env : Env) : Prop :=
  match dstOk N o.dst with
    | false => False
    | true => match o.guard with
      | none => exB P tt o env mem (strictE next)
      | some (j, want) => match guardOf ops env j with
        | .skip => strictE next (putE env o.dst .und)
        | .known d b => match want with
          | true => CondVC b
              (exB P tt o ((d, .v (.c (.bool true))) :: env) mem (strictE next))
              (strictE next (putE ((d, .v (.c (.bool false))) :: env) o.dst .und))
          | false => CondVC b
              (strictE next (putE ((d, .v (.c (.bool true))) :: env) o.dst .und))
              (exB P tt o ((d, .v (.c (.bool false))) :: env) mem (strictE next))
        | .unknown => False

@[reducible] def wplB (P : Program) (tt : Ty) (N : Nat) (ops : Array Oper) (mem : Mem) (k : Env → Prop) (l : List Oper) : Env → Prop :=
  List.rec (motive := fun _ => Env → Prop) (fun env => k env) (fun o _ next env => wplBStep P tt N ops mem o next env) l

section
variable {P : Program} {tt : Ty} {N : Nat} {x : Cx}
theorem exB_sound (ht : TyOk P tt) {o : Oper} {env : Env} {mem : Mem} {k : Env → Prop} {a : Act} {w : World} {ρ : Nm} {next : Act → Prop}
    (hd : dstOk N o.dst = true) (hA : SatA N ρ env a) (hW : SatW x ρ mem w) (h : exB P tt o env mem k)
    (hk : ∀ env' a', k env' → SatA N ρ env' a' → next a') : o.quiet P a (SatW x ρ mem) next := by
  unfold exB at h
  split at h
  · rename_i T parts ho
    split at h
    · rename_i cs hc
      refine quiet_value (x := x) (env := env) (e := .v (.agg cs)) (fun w hW => ?_) (hk _ _ h (hA.put hd _))
      have := buildC_run ht hA hc (w := w)
      simp only [execOp, ho]
      simp only [this, Sem.run_bind, Sem.run_pure, Result.andThen_ok, E.den, V.den]
      try rfl
    · exact h.elim
  · exact exQ_sound ht hd hA hW h hk

theorem wplB_sound (ht : TyOk P tt) {ops : Array Oper} {ρ : Nm} {mem : Mem} {w : World} (hW : SatW x ρ mem w) {k : Env → Prop} {next : Act → Prop} (hk : ∀ env' a', k env' → SatA N ρ env' a' → next a') :
    ∀ (rest : List Oper) (env : Env) (a : Act), wplB P tt N ops mem k rest env → SatA N ρ env a → wpQuiet P ops (SatW x ρ mem) next rest a
  | [], env, a, h, hA => wpQuiet_nil (hk env a h hA)
  | o :: rest, env, a, h, hA => by
    replace h : wplBStep P tt N ops mem o (wplB P tt N ops mem k rest) env := h
    simp only [wplBStep, strictE_fn] at h
    split at h
    · exact h.elim
    · rename_i hd
      have cont : ∀ env', SatA N ρ env' a → exB P tt o env' mem (wplB P tt N ops mem k rest) → Region.wanted o (yielded ops a.tmps) = true → wpQuiet P ops (SatW x ρ mem) next (o :: rest) a := fun env' hA' h' hw => by
        unfold wpQuiet
        rw [if_pos hw]
        exact exB_sound ht hd hA' hW h' fun env'' a' h1 h2 => wplB_sound ht hW hk rest env'' a' h1 h2
      have skip : ∀ env', SatA N ρ env' a → wplB P tt N ops mem k rest (putE env' o.dst .und) → Region.wanted o (yielded ops a.tmps) = false → wpQuiet P ops (SatW x ρ mem) next (o :: rest) a := fun env' hA' h' hw => by
        unfold wpQuiet
        rw [if_neg (by rw [hw]; exact Bool.false_ne_true)]
        exact wplB_sound ht hW hk rest _ _ h' (hA'.put hd .und)
      split at h
      · rename_i hg
        exact cont env hA h (by simp [Region.wanted, hg])
      · rename_i j want hg
        split at h
        · rename_i hs
          exact skip env hA h (by simp [Region.wanted, hg, guard_skip hA hs])
        · rename_i d b hkn
          obtain ⟨hl, hy⟩ := guard_known hA hkn
          split at h
          · replace h := h.out
            cases b with
            | true => exact cont _ (hA.known hl rfl) (h.1 rfl) (by simp [Region.wanted, hg, hy])
            | false => exact skip _ (hA.known hl rfl) (h.2 rfl) (by simp [Region.wanted, hg, hy])
          · replace h := h.out
            cases b with
            | true => exact skip _ (hA.known hl rfl) (h.1 rfl) (by simp [Region.wanted, hg, hy])
            | false => exact cont _ (hA.known hl rfl) (h.2 rfl) (by simp [Region.wanted, hg, hy])
        · exact h.elim

/-- A region whose operations only read, reckon, and call what leaves memory as it is: in the order of the text. -/
theorem DrawVC.quietB {D0 : List Nat} {id : Nat} {ops : Array Oper} {env : Env} {mem : Mem} {k : St → Prop} (ht : TyOk P tt) (hm : P.follows .mixedOrders = true) (hB : Region.lexB .any ops = true)
    (h : wplB P tt N ops mem (fun env' => k ⟨env', mem⟩) ops.toList env) : DrawVC P N D0 id ops ⟨env, mem⟩ k := by
  constructor
  intro x ρ a w Q hx hA hW hk
  refine wp_region_quiet (C := SatW x ρ mem) hm hB hW.drewW ?_
  exact wplB_sound ht hW (fun env' a' h1 h2 w' hw' => hk ⟨env', mem⟩ ρ a' w' h1 h2 hw') _ _ _ h hA

end

end Go.Proofs.YtaidpalamhmghaaDoor.X
