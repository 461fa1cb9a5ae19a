/- The walk over code is sound. No condition. -/
import Derived.Test.YtaidpalamhmghaaDoorSound
namespace Go.Proofs.YtaidpalamhmghaaDoor.X
open Go.RowKit
set_option linter.unusedVariables false
set_option linter.unusedSimpArgs false

section
variable {P : Program} {tt : Ty} {N : Nat} {x : Cx}

theorem strict_fn {α : Sort _} (k : St → α) : strict k = k := funext fun st => strict_eq k st

theorem ex1_sound (ht : TyOk P tt) {o : Oper} {st : St} {k : St → Prop} {a : Act} {w : World} {ρ : Nm} {next : Act → World → Prop} {Q : Exit → Act → World → Prop}
    (hd : dstOk N o.dst = true) (hA : SatA N ρ st.env a) (hW : SatW x ρ st.mem w) (h : ex1 P tt N x.D0 o st.env st.mem k)
    (hk : ∀ st' ρ' a' w', k st' → SatA N ρ' st'.env a' → SatW x ρ' st'.mem w' → next a' w') : o.wp P a w next Q := by
  unfold ex1 at h
  obtain ⟨F, hF, _⟩ := hW.mem
  split at h
  · rename_i e he
    exact value_wp (kk := k) hd hA hW (pv_run ht hA hF he) h hk
  · split at h
    · rename_i kd n he
      replace h := h.out
      exact value_wp (e := .v (.c (.int kd (kd.wrap n)))) (kk := k) hd hA hW (av_run ht hA he) h hk
    · split at h
      · rename_i p e he
        replace h := h.out
        exact value_wp (kk := k) hd hA hW (sv_run ht hA hF he h.1) h.2 hk
      · exact exM_sound ht hd hA hW h hk

theorem SatA.known {ρ : Nm} {env : Env} {a : Act} (h : SatA N ρ env a) {d : Nat} {b b' : Bool} (hl : look env d = some (.v (.c (.bool b)))) (hb : b = b') :
    SatA N ρ ((d, .v (.c (.bool b'))) :: env) a := by
  subst hb
  refine ⟨h.dfr, h.size, fun d' e he => ?_⟩
  by_cases hdd : d = d'
  · subst hdd
    rw [look_cons_self] at he
    obtain rfl := Option.some.inj he
    exact h.env d _ hl
  · rw [look_cons_ne _ _ hdd] at he
    exact h.env d' e he

theorem guard_known {ρ : Nm} {env : Env} {a : Act} (h : SatA N ρ env a) {ops : Array Oper} {j d : Nat} {b : Bool} (hg : guardOf ops env j = .known d b) :
    look env d = some (.v (.c (.bool b))) ∧ yielded ops a.tmps j = some b := by
  unfold guardOf at hg
  split at hg
  · rename_i oj hj
    split at hg
    · rename_i d' hd'
      split at hg
      · rename_i b' hl
        obtain ⟨rfl, rfl⟩ := Gd.known.inj hg
        have hv := h.env _ _ hl
        refine ⟨hl, ?_⟩
        unfold yielded
        rw [show ops[j]? = some oj by rw [← Array.getElem?_toList]; exact hj]
        simp only [Option.bind_some, hd']
        rw [Array.getD_eq_getD_getElem?] at hv
        cases ht : a.tmps[d']? with
        | none => rw [ht] at hv; simp [undef, E.den, V.den, C.den] at hv
        | some u => rw [ht] at hv; simp only [Option.getD_some, E.den, V.den, C.den] at hv; subst hv; rfl
      · cases hg
      · cases hg
    · cases hg
  · cases hg

theorem guard_skip {ρ : Nm} {env : Env} {a : Act} (h : SatA N ρ env a) {ops : Array Oper} {j : Nat} (hg : guardOf ops env j = .skip) : yielded ops a.tmps j = none := by
  unfold guardOf at hg
  split at hg
  · rename_i oj hj
    split at hg
    · rename_i d' hd'
      split at hg
      · cases hg
      · rename_i hl
        have hv := h.env _ _ hl
        unfold yielded
        rw [show ops[j]? = some oj by rw [← Array.getElem?_toList]; exact hj]
        simp only [Option.bind_some, hd']
        rw [Array.getD_eq_getD_getElem?] at hv
        cases ht : a.tmps[d']? with
        | none => rfl
        | some u => rw [ht] at hv; simp only [Option.getD_some, E.den] at hv; subst hv; rfl
      · cases hg
    · cases hg
  · cases hg

theorem wpl_sound (ht : TyOk P tt) {ops : Array Oper} {k : St → Prop} {Q : Exit → Act → World → Prop} (hk : ∀ st' ρ' a' w', k st' → SatA N ρ' st'.env a' → SatW x ρ' st'.mem w' → Q .normal a' w') :
    ∀ (rest : List Oper) (st : St) (ρ : Nm) (a : Act) (w : World), wpl P tt N x.D0 ops k rest st → SatA N ρ st.env a → SatW x ρ st.mem w → wpList P ops Q rest a w
  | [], st, ρ, a, w, h, hA, hW => wpList_nil (hk st ρ a w h hA hW)
  | o :: rest, ⟨env, mem⟩, ρ, a, w, h, hA, hW => by
    let st : St := ⟨env, mem⟩
    rw [wpl_cons] at h
    simp only [wplStep, strict_fn] at h
    split at h
    · exact h.elim
    · rename_i hd
      have cont : ∀ (st' : St), SatA N ρ st'.env a → SatW x ρ st'.mem w → ex1 P tt N x.D0 o st'.env st'.mem (wpl P tt N x.D0 ops k rest) → Region.wanted o (yielded ops a.tmps) = true → wpList P ops Q (o :: rest) a w := fun st' hA' hW' h' hw => by
        unfold wpList
        rw [if_pos hw]
        exact .inl (ex1_sound ht hd hA' hW' h' fun st'' ρ' a' w' h1 h2 h3 => wpl_sound ht hk rest st'' ρ' a' w' h1 h2 h3)
      have skip : ∀ (st' : St), SatA N ρ st'.env a → SatW x ρ st'.mem w → wpl P tt N x.D0 ops k rest ⟨putE st'.env o.dst .und, st'.mem⟩ → Region.wanted o (yielded ops a.tmps) = false → wpList P ops Q (o :: rest) a w := fun st' hA' hW' h' hw =>
        wpList_skip hw (wpl_sound ht hk rest _ ρ _ w h' (hA'.put hd .und) hW')
      split at h
      · rename_i hg
        exact cont ⟨env, mem⟩ hA hW h (by simp [Region.wanted, hg])
      · rename_i j want hg
        split at h
        · rename_i hs
          exact skip ⟨env, mem⟩ hA hW h (by simp [Region.wanted, hg, guard_skip hA hs])
        · rename_i d b hkn
          obtain ⟨hl, hy⟩ := guard_known hA hkn
          split at h
          · replace h := h.out
            cases b with
            | true => exact cont ⟨_, _⟩ (hA.known hl rfl) hW (h.1 rfl) (by simp [Region.wanted, hg, hy])
            | false => exact skip ⟨_, _⟩ (hA.known hl rfl) hW (h.2 rfl) (by simp [Region.wanted, hg, hy])
          · replace h := h.out
            cases b with
            | true => exact skip ⟨_, _⟩ (hA.known hl rfl) hW (h.1 rfl) (by simp [Region.wanted, hg, hy])
            | false => exact cont ⟨_, _⟩ (hA.known hl rfl) hW (h.2 rfl) (by simp [Region.wanted, hg, hy])
        · exact h.elim

theorem condEnv_sat {ρ : Nm} {env : Env} {a : Act} (h : SatA N ρ env a) {c : Operand} {b b' : Bool} (hl : ev env c = some (.v (.c (.bool b)))) (hb : b = b') : SatA N ρ (condEnv env c b') a := by
  cases c with
  | tmp t => exact h.known hl hb
  | _ => exact h

theorem wpx_sound (ht : TyOk P tt) (c : Code) : ∀ {K : Exit → St → Prop} {Q : Exit → Act → World → Prop} {st : St} {ρ : Nm} {a : Act} {w : World}, wpx P tt N x.D0 c st K → SatA N ρ st.env a → SatW x ρ st.mem w →
    (∀ e st' ρ' a' w', K e st' → SatA N ρ' st'.env a' → SatW x ρ' st'.mem w' → Q e a' w') → c.wp P Q a w := by
  induction c with
  | skip => intro K Q st ρ a w h hA hW hk; exact wp_skip (hk _ _ _ _ _ h hA hW)
  | label l => intro K Q st ρ a w h hA hW hk; exact wp_label (hk _ _ _ _ _ h hA hW)
  | exit id => intro K Q st ρ a w h hA hW hk; exact wp_exit (hk _ _ _ _ _ h hA hW)
  | ret => intro K Q st ρ a w h hA hW hk; exact wp_ret (hk _ _ _ _ _ h hA hW)
  | region id ops draw =>
    intro K Q st ρ a w h hA hW hk
    cases draw
    all_goals dsimp only [wpx] at h
    · exact wp_region_list (wpl_sound ht (fun st' ρ' a' w' h1 h2 h3 => hk _ _ _ _ _ h1 h2 h3) _ _ _ _ _ h hA hW)
    · exact h.out x ρ a w Q rfl hA hW fun st' ρ' a' w' h1 h2 h3 => hk _ _ _ _ _ h1 h2 h3
  | seq c1 c2 ih1 ih2 =>
    intro K Q st ρ a w h hA hW hk
    refine wp_seq (ih1 (K := thenK (fun s' => wpx P tt N x.D0 c2 s' K) K) h hA hW fun e st' ρ' a' w' h1 h2 h3 => ?_)
    cases e with
    | normal => exact ih2 h1 h2 h3 hk
    | _ => exact hk _ _ _ _ _ h1 h2 h3
  | cond c t e ih1 ih2 =>
    intro K Q st ρ a w h hA hW hk
    obtain ⟨env, mem⟩ := st
    replace h : condW c (wpx P tt N x.D0 t) (wpx P tt N x.D0 e) env mem K := h
    unfold condW at h
    split at h
    · rename_i b hc
      replace h := h.out
      have hc' := ev_den hA hc
      cases b with
      | true => exact wp_cond_true hc' (ih1 (h.1 rfl) (condEnv_sat hA hc rfl) hW hk)
      | false => exact wp_cond_false hc' (ih2 (h.2 rfl) (condEnv_sat hA hc rfl) hW hk)
    · exact h.elim
  | block id b ih =>
    intro K Q st ρ a w h hA hW hk
    refine wp_block (ih (K := blockK id K) h hA hW fun e st' ρ' a' w' h1 h2 h3 => ?_)
    cases e with
    | exit i =>
      simp only [blockK] at h1
      simp only [Exit.inBlock]
      split at h1
      · rename_i hd; rw [if_pos (of_decide_eq_true hd)]; exact hk _ _ _ _ _ h1 h2 h3
      · rename_i hd; rw [if_neg (of_decide_eq_false hd)]; exact hk _ _ _ _ _ h1 h2 h3
    | _ => exact hk _ _ _ _ _ h1 h2 h3
  | loop b ih =>
    intro K Q st ρ a w h hA hW hk
    replace h : LoopVC x.D0 (wpx P tt N x.D0 b) st K := h
    replace h := h.out
    obtain ⟨G, S, I, μ, g0, hI0, hsub, hround⟩ := h
    obtain ⟨ρ0, hA0, hW0⟩ := hsub N x ρ a w rfl hA hW
    -- a measure on states: by the ghost
    intro b' k' cs'
    have key : ∀ n g ρ a w, μ g = n → I g → SatA N ρ (S g).env a → SatW x ρ (S g).mem w →
        ∃ e a' w', Q e a' w' ∧ Arrives P (lone (b'.at a (.code b :: .inLoop b :: k')) cs' w) b' k' cs' e a' w' := by
      intro n
      induction n using Nat.strongRecOn with
      | _ n ihn =>
        intro g ρ a w hn hI hA hW
        obtain ⟨K', hb, hK'⟩ := hround g hI
        have hr := ih (Q := Exit.then (fun a' w' => ∃ g' ρ', I g' ∧ μ g' < n ∧ SatA N ρ' (S g').env a' ∧ SatW x ρ' (S g').mem w') Q) hb hA hW (fun e st' ρ' a' w' h0 h2 h3 => by
          have h1 := hK' e st' h0
          cases e with
          | normal =>
            obtain ⟨g', h4, h5, h6⟩ := h1
            obtain ⟨ρ'', h7, h8⟩ := h6 N x ρ' a' w' rfl h2 h3
            exact ⟨g', ρ'', h4, hn ▸ h5, h7, h8⟩
          | _ => exact hk _ _ _ _ _ h1 h2 h3)
        obtain ⟨e, a₁, w₁, hq, harr⟩ := hr b' (.inLoop b :: k') cs'
        cases e with
        | normal =>
          obtain ⟨g', ρ', h4, h5, h6, h7⟩ := hq
          obtain ⟨e₂, a₂, w₂, hq₂, harr₂⟩ := ihn (μ g') h5 g' ρ' a₁ w₁ rfl h4 h6 h7
          exact ⟨e₂, a₂, w₂, hq₂, .of_steps (Steps.trans harr (.one step_inLoop)) harr₂⟩
        | exit id => exact ⟨_, a₁, w₁, hq, .pass (x := .inLoop b) rfl (fun _ _ => .inl (by simp)) harr⟩
        | goto l => exact ⟨_, a₁, w₁, hq, .pass (x := .inLoop b) rfl (fun _ _ => .inl (by simp)) harr⟩
        | ret => exact ⟨_, a₁, w₁, hq, .pass (x := .inLoop b) rfl (fun _ _ => .inl (by simp)) harr⟩
        | panic ch => exact ⟨_, a₁, w₁, hq, .pass (x := .inLoop b) rfl (fun _ _ => .inl (by simp)) harr⟩
        | outgrown => exact ⟨_, a₁, w₁, hq, .pass (x := .inLoop b) rfl (fun _ _ => .inl (by simp)) harr⟩
    obtain ⟨e, a', w', hq, harr⟩ := key _ g0 ρ0 a w rfl hI0 hA0 hW0
    exact ⟨e, a', w', hq, .of_steps (.one step_loop) harr⟩
  | _ => intro K Q st ρ a w h hA hW hk; exact h.elim
end

end Go.Proofs.YtaidpalamhmghaaDoor.X
