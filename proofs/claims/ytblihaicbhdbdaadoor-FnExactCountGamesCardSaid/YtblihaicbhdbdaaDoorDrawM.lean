/- Regions whose order is open, as in Draw; what is greatest and least of two numbers is taken freely too; orders that end in states of one form. No condition. -/
import Derived.Test.YtblihaicbhdbdaaDoorDrawJ
import Derived.Test.YtblihaicbhdbdaaDoorExt
namespace Go.Proofs.YtblihaicbhdbdaaDoor.X
open Go.RowKit
set_option linter.unusedVariables false
set_option linter.unusedSimpArgs false

/-- An operation that only reads, max and min among them. -/
def pureStepM (tt : Ty) (env : Env) (M1 : Mem) (op : Op) (K : E → Prop) : Prop := match op with
  | .call ⟨.builtin .max, args, tys⟩ => match args.toList with
    | [x, y] => match ev env x, ev env y with
      | some (.v (.c (.int kd a))), some (.v (.c (.int kd' b))) => match decide (kd = kd') with
        | true => K (.v (.c (.int kd (if a < b then b else a))))
        | false => False
      | _, _ => False
    | _ => False
  | .call ⟨.builtin .min, args, tys⟩ => match args.toList with
    | [x, y] => match ev env x, ev env y with
      | some (.v (.c (.int kd a))), some (.v (.c (.int kd' b))) => match decide (kd = kd') with
        | true => K (.v (.c (.int kd (if b < a then b else a))))
        | false => False
      | _, _ => False
    | _ => False
  | op => pureStep tt env M1 op K
theorem pureStepM_sound {P : Program} {tt : Ty} {N : Nat} (ht : TyOk P tt) {ρ : Nm} {env : Env} {M1 : Mem} {a : Act} {o : Oper} {K : E → Prop} (hA : SatA N ρ env a) (h : pureStepM tt env M1 o.op K) {w0 : World} {F0 : Nat → Prop} (hM0 : MemSat ρ M1 w0 F0) :
    ∃ e, K e ∧ ∀ w F, MemSat ρ M1 w F → (execOp a.eval o).run P w = .ok (.value (e.den ρ)) w := by
  unfold pureStepM at h
  split at h
  · rename_i args tys ho
    split at h
    · rename_i y z hargs
      split at h
      · rename_i kd n kd' m hy hz
        split at h
        · rename_i hdk
          have e1 := of_decide_eq_true hdk
          subst e1
          refine ⟨_, h, fun w F hM => ?_⟩
          have hargs' : args = #[y, z] := Array.toList_inj.1 hargs
          simp only [execOp, ho, hargs', resolve, invoke, builtin, Sem.run_bind, Sem.run_pure, Result.andThen_ok, List.map_toArray, List.map_cons, List.map_nil, ev_den hA hy, ev_den hA hz, E.den, V.den, C.den]
          simp [Builtin.max_, Builtin.max2]
        · exact h.elim
      · exact h.elim
    · exact h.elim
  · rename_i args tys ho
    split at h
    · rename_i y z hargs
      split at h
      · rename_i kd n kd' m hy hz
        split at h
        · rename_i hdk
          have e1 := of_decide_eq_true hdk
          subst e1
          refine ⟨_, h, fun w F hM => ?_⟩
          have hargs' : args = #[y, z] := Array.toList_inj.1 hargs
          simp only [execOp, ho, hargs', resolve, invoke, builtin, Sem.run_bind, Sem.run_pure, Result.andThen_ok, List.map_toArray, List.map_cons, List.map_nil, ev_den hA hy, ev_den hA hz, E.den, V.den, C.den]
          simp [Builtin.min_, Builtin.min2]
        · exact h.elim
      · exact h.elim
    · exact h.elim
  · exact pureStep_sound ht hA h hM0

def takeStepM (tt : Ty) (N : Nat) (ops : Array Oper) (M1 : Mem) (i : Nat) (next : St → Prop) (st : St) : Prop := match st with
  | ⟨env, M2⟩ => match ops.toList[i]? with
    | some o => match o.guard, dstOk N o.dst with
      | none, true => pureStepM tt env M1 o.op fun e => strict next ⟨putE env o.dst e, M2⟩
      | _, _ => False
    | none => False

@[reducible] def treexM (P : Program) (tt : Ty) (N : Nat) (L : List Nat) (ops : Array Oper) (M1 : Mem) (k : St → Prop) (t : Tr) : St → Prop :=
  Tr.rec (motive := fun _ => St → Prop)
    (fun st => match st with | ⟨env, M2⟩ => strict k ⟨env, M1 ++ M2⟩)
    (fun _ => True)
    (fun i _ next st => takeStepM tt N ops M1 i next st)
    (fun i _ _ next rest st => AltVC (altStep P tt N L ops M1 i next st) (rest st)) t

section
variable {P : Program} {tt : Ty} {N : Nat}

/-- The tree's condition gives the region's. -/
theorem treex_soundM {x : Cx} (ht : TyOk P tt) {ops : Array Oper} {M1 : Mem} {k : St → Prop} {Q : Exit → Act → World → Prop} (hs : Region.noSelect ops = true)
    (hQ : ∀ c a w, ¬ Q (.panic c) a w) (hL : ∀ r ∈ memCell M1, r ∈ x.D0)
    (hk : ∀ st' ρ' a' w', k st' → SatA N ρ' st'.env a' → SatW x ρ' st'.mem w' → Q .normal a' w') :
    ∀ (t : Tr) (cov : List Nat) (listed : Array Bool) (st : St) (ρ : Nm) (a : Act) (w : World), okT ops t listed cov = true →
      treexM P tt N x.D0 ops M1 k t st → SatA N ρ st.env a → SatW x ρ (M1 ++ st.mem) w →
      (isAlt t ∨ cov ≠ [] → ∀ n, depthT t ≤ n + 1 → ∀ i ∈ Region.ready .any ops listed, i ∉ cov →
        wpOp P ops Q i (fun a' w' => (∃ F, MemSat x.ρ0 M1 w' F) ∧ wpAnyH P .any ops Q (fun w => ∃ F, MemSat x.ρ0 M1 w F) n (listed.setIfInBounds i true) a' w') a w) ∧
      (cov = [] → ∀ fuel, depthT t ≤ fuel → wpAnyH P .any ops Q (fun w => ∃ F, MemSat x.ρ0 M1 w F) fuel listed a w) := by
  have held : ∀ {ρ : Nm} {M2 : Mem} {w : World}, SatW x ρ (M1 ++ M2) w → ∃ F, MemSat x.ρ0 M1 w F := fun {ρ M2 w} hW => by
    obtain ⟨F, hF, _⟩ := hW.mem
    obtain ⟨F1, F2, _, _, h1, _⟩ := MemSat.append.1 hF
    exact ⟨F1, h1.agrees fun r hr => (hW.agr r (hL r hr)).symm⟩
  intro t
  induction t with
  | done =>
    intro cov listed st ρ a w hok h hA hW
    simp only [okT, Bool.and_eq_true, List.isEmpty_iff] at hok
    refine ⟨fun hc => ?_, fun _ fuel _ => wpAnyH_done hok.1 ?_ fuel⟩
    · rcases hc with hc | hc
      · exact hc.elim
      · exact absurd hok.2 hc
    · obtain ⟨env, M2⟩ := st
      replace h : strict k ⟨env, M1 ++ M2⟩ := h
      rw [strict_eq] at h
      exact hk _ ρ a w h hA hW
  | no =>
    intro cov listed st ρ a w hok h hA hW
    simp only [okT, Bool.and_eq_true, Bool.not_eq_true', List.all_eq_true, List.isEmpty_eq_false_iff] at hok
    refine ⟨fun _ n _ i hi hn => ?_, fun hc => absurd hc hok.2⟩
    have := hok.1 i hi
    simp at this
    exact absurd this hn
  | take i t ih =>
    intro cov listed st ρ a w hok h hA hW
    simp only [okT, Bool.and_eq_true, List.isEmpty_iff] at hok
    obtain ⟨⟨⟨hcov, hr⟩, hf⟩, hok'⟩ := hok
    refine ⟨fun hc => ?_, fun _ fuel hfu => ?_⟩
    · rcases hc with hc | hc
      · exact hc.elim
      · exact absurd hcov hc
    · obtain ⟨env, M2⟩ := st
      replace h : takeStepM tt N ops M1 i (treexM P tt N x.D0 ops M1 k t) ⟨env, M2⟩ := h
      simp only [takeStepM, strict_fn] at h
      split at h
      · rename_i o hi
        split at h
        · rename_i hg hd
          obtain ⟨F, hF, _⟩ := hW.mem
          obtain ⟨F1, F2, _, _, h1, _⟩ := MemSat.append.1 hF
          obtain ⟨e, he, hrun⟩ := pureStepM_sound ht hA h h1
          obtain ⟨fuel, rfl⟩ : ∃ n, fuel = n + 1 := ⟨fuel - 1, by simp only [depthT] at hfu; omega⟩
          have hi' : ops[i]? = some o := by rw [← Array.getElem?_toList]; exact hi
          refine wpAnyH_take (v := e.den ρ) hi' hs hf hr (fun c a w h => absurd h (hQ _ _ _)) (.inl ⟨by simp [Region.wanted, hg], fun w' hw' => ?_⟩) (held hW) ?_
          · obtain ⟨F', hF'⟩ := hw'
            exact hrun w' F' (hF'.agrees fun r hr => hW.agr r (hL r hr))
          · exact (ih [] _ ⟨putE env o.dst e, M2⟩ ρ _ w hok' he (hA.put hd e) hW).2 rfl fuel (by simp only [depthT] at hfu; omega)
        · exact h.elim
      · exact h.elim
  | alt i t r ih1 ih2 =>
    intro cov listed st ρ a w hok h hA hW
    simp only [okT, Bool.and_eq_true] at hok
    obtain ⟨⟨hr, hok1⟩, hok2⟩ := hok
    replace h : AltVC (altStep P tt N x.D0 ops M1 i (treexM P tt N x.D0 ops M1 k t) st) (treexM P tt N x.D0 ops M1 k r st) := h
    obtain ⟨h1, h2⟩ := h.out
    have A : ∀ n, depthT (.alt i t r) ≤ n + 1 → ∀ j ∈ Region.ready .any ops listed, j ∉ cov →
        wpOp P ops Q j (fun a' w' => (∃ F, MemSat x.ρ0 M1 w' F) ∧ wpAnyH P .any ops Q (fun w => ∃ F, MemSat x.ρ0 M1 w F) n (listed.setIfInBounds j true) a' w') a w := by
      intro n hn j hj hjc
      simp only [depthT] at hn
      by_cases hji : j = i
      · subst hji
        obtain ⟨env, M2⟩ := st
        simp only [altStep] at h1
        split at h1
        · rename_i o hi
          have hi' : ops[j]? = some o := by rw [← Array.getElem?_toList]; exact hi
          refine step_sound ht hi' h1 hA hW fun st' ρ' a' w' hn' hA' hW' => ?_
          obtain ⟨env', mem'⟩ := st'
          obtain ⟨M2', hp, hn'⟩ := HeldVC.out hn'
          rw [strict_eq] at hn'
          have hW'' := hW'.perm hp
          exact ⟨held hW'', (ih1 [] _ ⟨env', M2'⟩ ρ' a' w' hok1 hn' hA' hW'').2 rfl n (by omega)⟩
        · exact h1.elim
      · exact (ih2 (i :: cov) listed st ρ a w hok2 h2 hA hW).1 (.inr (by simp)) n (by omega) j hj (by simp [hji, hjc])
    refine ⟨fun _ => A, fun hc fuel hfu => ?_⟩
    obtain ⟨fuel, rfl⟩ : ∃ n, fuel = n + 1 := ⟨fuel - 1, by simp only [depthT] at hfu; omega⟩
    refine ⟨fun h0 => ?_, fun j hj => A fuel hfu j hj (by rw [hc]; simp)⟩
    rw [h0] at hr; simp at hr

/-- A region whose order is open, along a tree; 'pn' names what stays as it is. -/
theorem DrawVC.treeM {D0 : List Nat} {id : Nat} {ops : Array Oper} {env : Env} {mem M1 M2 : Mem} {k : St → Prop} (ht : TyOk P tt) (pn : List Nat) (t : Tr) (hm : P.follows .mixedOrders = true)
    (hok : (Region.noSelect ops && okT ops t (Array.replicate ops.size false) [] && Nat.ble (depthT t) ops.size) = true)
    (hp : pickL mem pn = some (M1, M2))
    (h : treexM P tt N (memCell M1 ++ D0) ops M1 k t ⟨env, M2⟩) : DrawVC P N D0 id ops ⟨env, mem⟩ k := by
  constructor
  intro x ρ a w Q hx hA hW hk
  simp only [Bool.and_eq_true] at hok
  obtain ⟨⟨hs, hok⟩, hdep⟩ := hok
  refine wp_region_noPanic (wp_region_held (S := fun w => ∃ F, MemSat ρ M1 w F) hm ?_)
  have hW' := (hW.drewW).perm (pickL_perm hp)
  obtain ⟨F, hF, hF0⟩ := hW'.mem
  let x' : Cx := ⟨{ w with drawn := w.drawn + 1 }, F, ρ, memCell M1 ++ D0⟩
  have hst : SatW x' ρ (M1 ++ M2) { w with drawn := w.drawn + 1 } := ⟨⟨F, hF, fun b hb => .inl hb⟩, rfl, rfl, rfl, Nat.le_refl _, fun _ _ _ => rfl, fun r _ => Nm.agree.refl ρ r⟩
  have := (treex_soundM (x := x') (Q := NoPanic Q) ht hs (fun c a w h => h) (fun r hr => List.mem_append_left _ hr) (fun st' ρ' a' w' h1 h2 h3 =>
    NoPanic.normal (hk st' ρ' a' w' h1 h2 (hW'.restart hF0 h3 fun r hr => by rw [hx] at hr; exact List.mem_append_right _ hr))) t [] _ ⟨env, M2⟩ ρ a _ hok h hA hst).2 rfl ops.size (Nat.le_of_ble_eq_true hdep)
  exact this
/-- The same where all memory that there is stays as it is. -/
theorem DrawVC.allM {D0 : List Nat} {id : Nat} {ops : Array Oper} {env : Env} {mem : Mem} {k : St → Prop} (ht : TyOk P tt) (t : Tr) (hm : P.follows .mixedOrders = true)
    (hok : (Region.noSelect ops && okT ops t (Array.replicate ops.size false) [] && Nat.ble (depthT t) ops.size) = true)
    (hp : pickL mem (memNames mem) = some (mem, []))
    (h : treexM P tt N (memCell mem ++ D0) ops mem k t ⟨env, []⟩) : DrawVC P N D0 id ops ⟨env, mem⟩ k :=
  DrawVC.treeM ht (memNames mem) t hm hok hp h
end
theorem DrawVC.joinE {P : Program} {N : Nat} {D0 : List Nat} {id : Nat} {ops : Array Oper} {st : St} {k : St → Prop} {X : Type} (t : X → St) (h : DrawVC P N D0 id ops st (fun s => ∃ x, SubVC D0 s (t x) ∧ k (t x))) : DrawVC P N D0 id ops st k := by
  constructor
  intro x ρ a w Q hx hA hW hK
  refine h.out x ρ a w Q hx hA hW ?_
  rintro st' ρ' a' w' ⟨y, hs, hk⟩ hA' hW'
  obtain ⟨ρ'', h1, h2⟩ := hs.out N x ρ' a' w' hx hA' hW'
  exact hK (t y) ρ'' a' w' hk h1 h2
end Go.Proofs.YtblihaicbhdbdaaDoor.X
