/- Regions whose order is open and whose operations turn memory: explored along a tree of orders. No condition. -/
import Derived.Test.YtaidpalamhmghaaDoorMore
import Derived.OrdersHeld
import Derived.Deep.RegionHeld3
namespace Go.Proofs.YtaidpalamhmghaaDoor.X
open Go.RowKit
set_option linter.unusedVariables false
set_option linter.unusedSimpArgs false

/-- The orders of a region: what may be taken first; what may come up. -/
inductive Tr where
  | done
  | no
  | take (i : Nat) (t : Tr)
  | alt (i : Nat) (t r : Tr)

/-- Whether a tree holds all orders. -/
def okT (ops : Array Oper) : Tr → Array Bool → List Nat → Bool
  | .done, listed, cov => (Region.ready .any ops listed).isEmpty && cov.isEmpty
  | .no, listed, cov => (Region.ready .any ops listed).all (fun i => cov.contains i) && !(cov.isEmpty)
  | .take i t, listed, cov => cov.isEmpty && (Region.ready .any ops listed).contains i && Region.free .any ops listed i && okT ops t (listed.setIfInBounds i true) []
  | .alt i t r, listed, cov => (Region.ready .any ops listed).contains i && okT ops t (listed.setIfInBounds i true) [] && okT ops r listed (i :: cov)

structure HeldVC (M1 mem : Mem) (K : Mem → Prop) : Prop where
  make ::
  out : ∃ M2, mem.Perm (M1 ++ M2) ∧ K M2
structure AltVC (p q : Prop) : Prop where
  make ::
  out : p ∧ q
theorem AltVC.mk {p q : Prop} (h : p) (h' : q) : AltVC p q := ⟨⟨h, h'⟩⟩
theorem HeldVC.mk {M1 mem M2 : Mem} {K : Mem → Prop} (h : pickL mem (memNames M1) = some (M1, M2)) (k : K M2) : HeldVC M1 mem K := ⟨⟨M2, pickL_perm h, k⟩⟩

/-- An operation that only reads. -/
def pureStep (tt : Ty) (env : Env) (M1 : Mem) (op : Op) (K : E → Prop) : Prop := match pv tt env M1 op with
  | some e => K e
  | none => match av tt env op with
    | some (kd, n) => ArVC kd n fun m => K (.v (.c (.int kd m)))
    | none => match sv tt env M1 op with
      | some (p, e) => SideVC p (K e)
      | none => match op with
        | .load T x => match ev env x with
          | some (.v (.c (.ptr r off))) => match look M1 r with
            | some (.box _ cs) => match loadC tt T cs off with
              | some v => K (.v v)
              | none => False
            | _ => False
          | some (.v (.c (.el r i sz off))) => match rowRes M1 r with
            | some (sz', es) => match decide (sz = sz') with
              | true => LoadVC es i fun x => match loadC tt T x off with
                | some v => K (.v v)
                | none => False
              | false => False
            | none => False
          | _ => False
        | _ => False

def takeStep (tt : Ty) (N : Nat) (ops : Array Oper) (M1 : Mem) (i : Nat) (next : St → Prop) (st : St) : Prop := match st with
  | ⟨env, M2⟩ => match ops.toList[i]? with
    | some o => match o.guard, dstOk N o.dst with
      | none, true => pureStep tt env M1 o.op fun e => strict next ⟨putE env o.dst e, M2⟩
      | _, _ => False
    | none => False

def altStep (P : Program) (tt : Ty) (N : Nat) (L : List Nat) (ops : Array Oper) (M1 : Mem) (i : Nat) (next : St → Prop) (st : St) : Prop := match st with
  | ⟨env, M2⟩ => match ops.toList[i]? with
    | some o => wplStep P tt N L ops o (fun st' => match st' with | ⟨env', mem'⟩ => HeldVC M1 mem' fun M2' => strict next ⟨env', M2'⟩) env (M1 ++ M2)
    | none => False

@[reducible] def treex (P : Program) (tt : Ty) (N : Nat) (L : List Nat) (ops : Array Oper) (M1 : Mem) (k : St → Prop) (t : Tr) : St → Prop :=
  Tr.rec (motive := fun _ => St → Prop)
    (fun st => match st with | ⟨env, M2⟩ => strict k ⟨env, M1 ++ M2⟩)
    (fun _ => True)
    (fun i _ next st => takeStep tt N ops M1 i next st)
    (fun i _ _ next rest st => AltVC (altStep P tt N L ops M1 i next st) (rest st)) t

section
variable {P : Program} {tt : Ty} {N : Nat}

/-- An operation in a region. -/
theorem step_sound {x : Cx} (ht : TyOk P tt) {ops : Array Oper} {i : Nat} {o : Oper} {next : St → Prop} {env : Env} {mem : Mem} {ρ : Nm} {a : Act} {w : World} {K : Act → World → Prop} {Q : Exit → Act → World → Prop}
    (hi : ops[i]? = some o) (h : wplStep P tt N x.D0 ops o next env mem) (hA : SatA N ρ env a) (hW : SatW x ρ mem w)
    (hk : ∀ st' ρ' a' w', next st' → SatA N ρ' st'.env a' → SatW x ρ' st'.mem w' → K a' w') : wpOp P ops Q i K a w := by
  unfold wpOp
  simp only [hi]
  simp only [wplStep, strict_fn] at h
  split at h
  · exact h.elim
  · rename_i hd
    have cont : ∀ (st' : St), SatA N ρ st'.env a → SatW x ρ st'.mem w → ex1 P tt N x.D0 o st'.env st'.mem next → Region.wanted o (yielded ops a.tmps) = true →
        if Region.wanted o (yielded ops a.tmps) = true then o.wp P a w K Q ∨ (o.asks P a w ∧ LetsOut Q) else K (a.put o.dst undef) w := fun st' hA' hW' h' hw => by
      rw [if_pos hw]
      exact .inl (ex1_sound ht hd hA' hW' h' hk)
    have skip : ∀ (st' : St), SatA N ρ st'.env a → SatW x ρ st'.mem w → next ⟨putE st'.env o.dst .und, st'.mem⟩ → Region.wanted o (yielded ops a.tmps) = false →
        if Region.wanted o (yielded ops a.tmps) = true then o.wp P a w K Q ∨ (o.asks P a w ∧ LetsOut Q) else K (a.put o.dst undef) w := fun st' hA' hW' h' hw => by
      rw [hw, if_neg Bool.false_ne_true]
      exact hk _ ρ _ w h' (hA'.put hd .und) hW'
    split at h
    · rename_i hg
      exact cont ⟨env, mem⟩ hA hW h (by simp [Region.wanted, hg])
    · rename_i j want hg
      split at h
      · rename_i hs
        exact skip ⟨env, mem⟩ hA hW h (by simp [Region.wanted, hg, guard_skip hA hs])
      · rename_i d b hkn
        obtain ⟨hl, hy⟩ := guard_known hA hkn
        split at h
        · replace h := h.out
          cases b with
          | true => exact cont ⟨_, _⟩ (hA.known hl rfl) hW (h.1 rfl) (by simp [Region.wanted, hg, hy])
          | false => exact skip ⟨_, _⟩ (hA.known hl rfl) hW (h.2 rfl) (by simp [Region.wanted, hg, hy])
        · replace h := h.out
          cases b with
          | true => exact skip ⟨_, _⟩ (hA.known hl rfl) hW (h.1 rfl) (by simp [Region.wanted, hg, hy])
          | false => exact cont ⟨_, _⟩ (hA.known hl rfl) hW (h.2 rfl) (by simp [Region.wanted, hg, hy])
      · exact h.elim

/-- What an operation that only reads yields, in every world in which the held part of memory is as it was. -/
theorem pureStep_sound (ht : TyOk P tt) {ρ : Nm} {env : Env} {M1 : Mem} {a : Act} {o : Oper} {K : E → Prop} (hA : SatA N ρ env a) (h : pureStep tt env M1 o.op K) {w0 : World} {F0 : Nat → Prop} (hM0 : MemSat ρ M1 w0 F0) :
    ∃ e, K e ∧ ∀ w F, MemSat ρ M1 w F → (execOp a.eval o).run P w = .ok (.value (e.den ρ)) w := by
  unfold pureStep at h
  split at h
  · rename_i e he
    exact ⟨e, h, fun w F hM => pv_run ht hA hM he⟩
  · split at h
    · rename_i kd n he
      exact ⟨_, h.out, fun w F hM => av_run ht hA he⟩
    · split at h
      · rename_i p e he
        exact ⟨e, h.out.2, fun w F hM => sv_run ht hA hM he h.out.1⟩
      · split at h
        · rename_i T y ho
          have fin : ∀ (v : V) (ad : Addr) (w : World), a.eval y = .pointer (some ad) → (loadVar T ad).run P w = .ok (v.den ρ) w → (execOp a.eval o).run P w = .ok (.value (v.den ρ)) w := fun v ad w h1 h2 => by
            simp [execOp, ho, h1, Instr.loadAt, Instr.sureAddr, h2]
          split at h
          · rename_i r off hy
            split at h
            · rename_i T' cs hl
              split at h
              · rename_i v hv
                refine ⟨.v v, h, fun w F hM => ?_⟩
                obtain ⟨F', hR, _⟩ := hM.get hl
                have := loadC_run ht (ρ := ρ) (ad := ⟨ρ.adr r, 0, none⟩) (w := w) (fun j c hj => box_cell hR hj) hv
                refine fin v _ w (ev_den hA hy) ?_
                rw [add_none] at this
                simpa using this
              · exact h.elim
            · exact h.elim
          · rename_i r i sz off hy
            split at h
            · rename_i sz' es hl
              split at h
              · rename_i hsz
                have hsz' : sz = sz' := of_decide_eq_true hsz
                subst hsz'
                obtain ⟨xx, hx, h⟩ := h.out
                split at h
                · rename_i v hv
                  refine ⟨.v v, h, fun w F hM => ?_⟩
                  obtain ⟨RR, hl', hir⟩ := rowRes_is hl
                  obtain ⟨F', hR, _⟩ := hM.get hl'
                  have := loadC_run ht (ρ := ρ) (ad := ((ρ.rb r).getD ⟨0, 0, none⟩).add (i * sz)) (w := w) (fun j c hj => hir.cell hR hx hj) hv
                  refine fin v _ w (ev_den hA hy) ?_
                  rw [Addr.add_add'] at this
                  exact this
                · exact h.elim
              · exact h.elim
            · exact h.elim
          · exact h.elim
        · exact h.elim

def memCell (m : Mem) : List Nat := memNames m ++ m.flatMap (·.2.names)

theorem MemSat.agrees {ρ ρ' : Nm} {m : Mem} {w : World} {F : Nat → Prop} (h : ∀ r ∈ memCell m, ρ.agree ρ' r) (hM : MemSat ρ m w F) : MemSat ρ' m w F :=
  hM.congr fun p hp => ⟨h _ (List.mem_append_left _ (List.mem_map.2 ⟨p, hp, rfl⟩)), fun d hd => h _ (List.mem_append_right _ (List.mem_flatMap.2 ⟨p, hp, hd⟩))⟩

def depthT : Tr → Nat
  | .done => 0
  | .no => 0
  | .take _ t => depthT t + 1
  | .alt _ t r => max (depthT t + 1) (depthT r)

def isAlt : Tr → Prop
  | .alt .. => True
  | _ => False

/-- The tree's condition gives the region's. -/
theorem treex_sound {x : Cx} (ht : TyOk P tt) {ops : Array Oper} {M1 : Mem} {k : St → Prop} {Q : Exit → Act → World → Prop} (hs : Region.noSelect ops = true)
    (hQ : ∀ c a w, ¬ Q (.panic c) a w) (hL : ∀ r ∈ memCell M1, r ∈ x.D0)
    (hk : ∀ st' ρ' a' w', k st' → SatA N ρ' st'.env a' → SatW x ρ' st'.mem w' → Q .normal a' w') :
    ∀ (t : Tr) (cov : List Nat) (listed : Array Bool) (st : St) (ρ : Nm) (a : Act) (w : World), okT ops t listed cov = true →
      treex P tt N x.D0 ops M1 k t st → SatA N ρ st.env a → SatW x ρ (M1 ++ st.mem) w →
      (isAlt t ∨ cov ≠ [] → ∀ n, depthT t ≤ n + 1 → ∀ i ∈ Region.ready .any ops listed, i ∉ cov →
        wpOp P ops Q i (fun a' w' => (∃ F, MemSat x.ρ0 M1 w' F) ∧ wpAnyH P .any ops Q (fun w => ∃ F, MemSat x.ρ0 M1 w F) n (listed.setIfInBounds i true) a' w') a w) ∧
      (cov = [] → ∀ fuel, depthT t ≤ fuel → wpAnyH P .any ops Q (fun w => ∃ F, MemSat x.ρ0 M1 w F) fuel listed a w) := by
  have held : ∀ {ρ : Nm} {M2 : Mem} {w : World}, SatW x ρ (M1 ++ M2) w → ∃ F, MemSat x.ρ0 M1 w F := fun {ρ M2 w} hW => by
    obtain ⟨F, hF, _⟩ := hW.mem
    obtain ⟨F1, F2, _, _, h1, _⟩ := MemSat.append.1 hF
    exact ⟨F1, h1.agrees fun r hr => (hW.agr r (hL r hr)).symm⟩
  intro t
  induction t with
  | done =>
    intro cov listed st ρ a w hok h hA hW
    simp only [okT, Bool.and_eq_true, List.isEmpty_iff] at hok
    refine ⟨fun hc => ?_, fun _ fuel _ => wpAnyH_done hok.1 ?_ fuel⟩
    · rcases hc with hc | hc
      · exact hc.elim
      · exact absurd hok.2 hc
    · obtain ⟨env, M2⟩ := st
      replace h : strict k ⟨env, M1 ++ M2⟩ := h
      rw [strict_eq] at h
      exact hk _ ρ a w h hA hW
  | no =>
    intro cov listed st ρ a w hok h hA hW
    simp only [okT, Bool.and_eq_true, Bool.not_eq_true', List.all_eq_true, List.isEmpty_eq_false_iff] at hok
    refine ⟨fun _ n _ i hi hn => ?_, fun hc => absurd hc hok.2⟩
    have := hok.1 i hi
    simp at this
    exact absurd this hn
  | take i t ih =>
    intro cov listed st ρ a w hok h hA hW
    simp only [okT, Bool.and_eq_true, List.isEmpty_iff] at hok
    obtain ⟨⟨⟨hcov, hr⟩, hf⟩, hok'⟩ := hok
    refine ⟨fun hc => ?_, fun _ fuel hfu => ?_⟩
    · rcases hc with hc | hc
      · exact hc.elim
      · exact absurd hcov hc
    · obtain ⟨env, M2⟩ := st
      replace h : takeStep tt N ops M1 i (treex P tt N x.D0 ops M1 k t) ⟨env, M2⟩ := h
      simp only [takeStep, strict_fn] at h
      split at h
      · rename_i o hi
        split at h
        · rename_i hg hd
          obtain ⟨F, hF, _⟩ := hW.mem
          obtain ⟨F1, F2, _, _, h1, _⟩ := MemSat.append.1 hF
          obtain ⟨e, he, hrun⟩ := pureStep_sound ht hA h h1
          obtain ⟨fuel, rfl⟩ : ∃ n, fuel = n + 1 := ⟨fuel - 1, by simp only [depthT] at hfu; omega⟩
          have hi' : ops[i]? = some o := by rw [← Array.getElem?_toList]; exact hi
          refine wpAnyH_take (v := e.den ρ) hi' hs hf hr (fun c a w h => absurd h (hQ _ _ _)) (.inl ⟨by simp [Region.wanted, hg], fun w' hw' => ?_⟩) (held hW) ?_
          · obtain ⟨F', hF'⟩ := hw'
            exact hrun w' F' (hF'.agrees fun r hr => hW.agr r (hL r hr))
          · exact (ih [] _ ⟨putE env o.dst e, M2⟩ ρ _ w hok' he (hA.put hd e) hW).2 rfl fuel (by simp only [depthT] at hfu; omega)
        · exact h.elim
      · exact h.elim
  | alt i t r ih1 ih2 =>
    intro cov listed st ρ a w hok h hA hW
    simp only [okT, Bool.and_eq_true] at hok
    obtain ⟨⟨hr, hok1⟩, hok2⟩ := hok
    replace h : AltVC (altStep P tt N x.D0 ops M1 i (treex P tt N x.D0 ops M1 k t) st) (treex P tt N x.D0 ops M1 k r st) := h
    obtain ⟨h1, h2⟩ := h.out
    have A : ∀ n, depthT (.alt i t r) ≤ n + 1 → ∀ j ∈ Region.ready .any ops listed, j ∉ cov →
        wpOp P ops Q j (fun a' w' => (∃ F, MemSat x.ρ0 M1 w' F) ∧ wpAnyH P .any ops Q (fun w => ∃ F, MemSat x.ρ0 M1 w F) n (listed.setIfInBounds j true) a' w') a w := by
      intro n hn j hj hjc
      simp only [depthT] at hn
      by_cases hji : j = i
      · subst hji
        obtain ⟨env, M2⟩ := st
        simp only [altStep] at h1
        split at h1
        · rename_i o hi
          have hi' : ops[j]? = some o := by rw [← Array.getElem?_toList]; exact hi
          refine step_sound ht hi' h1 hA hW fun st' ρ' a' w' hn' hA' hW' => ?_
          obtain ⟨env', mem'⟩ := st'
          obtain ⟨M2', hp, hn'⟩ := HeldVC.out hn'
          rw [strict_eq] at hn'
          have hW'' := hW'.perm hp
          exact ⟨held hW'', (ih1 [] _ ⟨env', M2'⟩ ρ' a' w' hok1 hn' hA' hW'').2 rfl n (by omega)⟩
        · exact h1.elim
      · exact (ih2 (i :: cov) listed st ρ a w hok2 h2 hA hW).1 (.inr (by simp)) n (by omega) j hj (by simp [hji, hjc])
    refine ⟨fun _ => A, fun hc fuel hfu => ?_⟩
    obtain ⟨fuel, rfl⟩ : ∃ n, fuel = n + 1 := ⟨fuel - 1, by simp only [depthT] at hfu; omega⟩
    refine ⟨fun h0 => ?_, fun j hj => A fuel hfu j hj (by rw [hc]; simp)⟩
    rw [h0] at hr; simp at hr

theorem SatW.restart {x : Cx} {ρ ρ' : Nm} {mem mem' : Mem} {w w' : World} {F : Nat → Prop} {L : List Nat} (h1 : SatW x ρ mem w) (hF0 : ∀ b, F b → x.F0 b ∨ x.w0.heap.size ≤ b)
    (h2 : SatW ⟨w, F, ρ, L⟩ ρ' mem' w') (hL : ∀ r ∈ x.D0, r ∈ L) : SatW x ρ' mem' w' := by
  obtain ⟨F', hF', h3⟩ := h2.mem
  refine ⟨⟨F', hF', fun b hb => ?_⟩, h2.os.trans h1.os, h2.tape.trans h1.tape, h2.output.trans h1.output, Nat.le_trans h1.size h2.size, fun b hb hn => ?_, fun r hr => (h1.agr r hr).trans (h2.agr r (hL r hr))⟩
  · rcases h3 b hb with h | h
    · exact hF0 b h
    · have := h1.size
      exact .inr (Nat.le_trans this h)
  · have hlt : b < w.heap.size := Nat.lt_of_lt_of_le hb h1.size
    have hnF : ¬ F b := fun h => by
      rcases hF0 b h with h | h
      · exact hn h
      · omega
    have := h2.keep b hlt hnF
    exact this.trans (h1.keep b hb hn)

/-- A region whose order is open, along a tree; 'pn' names what stays as it is. -/
theorem DrawVC.tree {D0 : List Nat} {id : Nat} {ops : Array Oper} {env : Env} {mem M1 M2 : Mem} {k : St → Prop} (ht : TyOk P tt) (pn : List Nat) (t : Tr) (hm : P.follows .mixedOrders = true)
    (hok : (Region.noSelect ops && okT ops t (Array.replicate ops.size false) [] && Nat.ble (depthT t) ops.size) = true)
    (hp : pickL mem pn = some (M1, M2))
    (h : treex P tt N (memCell M1 ++ D0) ops M1 k t ⟨env, M2⟩) : DrawVC P N D0 id ops ⟨env, mem⟩ k := by
  constructor
  intro x ρ a w Q hx hA hW hk
  simp only [Bool.and_eq_true] at hok
  obtain ⟨⟨hs, hok⟩, hdep⟩ := hok
  refine wp_region_noPanic (wp_region_held (S := fun w => ∃ F, MemSat ρ M1 w F) hm ?_)
  have hW' := (hW.drewW).perm (pickL_perm hp)
  obtain ⟨F, hF, hF0⟩ := hW'.mem
  let x' : Cx := ⟨{ w with drawn := w.drawn + 1 }, F, ρ, memCell M1 ++ D0⟩
  have hst : SatW x' ρ (M1 ++ M2) { w with drawn := w.drawn + 1 } := ⟨⟨F, hF, fun b hb => .inl hb⟩, rfl, rfl, rfl, Nat.le_refl _, fun _ _ _ => rfl, fun r _ => Nm.agree.refl ρ r⟩
  have := (treex_sound (x := x') (Q := NoPanic Q) ht hs (fun c a w h => h) (fun r hr => List.mem_append_left _ hr) (fun st' ρ' a' w' h1 h2 h3 =>
    NoPanic.normal (hk st' ρ' a' w' h1 h2 (hW'.restart hF0 h3 fun r hr => by rw [hx] at hr; exact List.mem_append_right _ hr))) t [] _ ⟨env, M2⟩ ρ a _ hok h hA hst).2 rfl ops.size (Nat.le_of_ble_eq_true hdep)
  exact this
/-- The same where all memory that there is stays as it is. -/
theorem DrawVC.all {D0 : List Nat} {id : Nat} {ops : Array Oper} {env : Env} {mem : Mem} {k : St → Prop} (ht : TyOk P tt) (t : Tr) (hm : P.follows .mixedOrders = true)
    (hok : (Region.noSelect ops && okT ops t (Array.replicate ops.size false) [] && Nat.ble (depthT t) ops.size) = true)
    (hp : pickL mem (memNames mem) = some (mem, []))
    (h : treex P tt N (memCell mem ++ D0) ops mem k t ⟨env, []⟩) : DrawVC P N D0 id ops ⟨env, mem⟩ k :=
  DrawVC.tree ht (memNames mem) t hm hok hp h
end

end Go.Proofs.YtaidpalamhmghaaDoor.X
