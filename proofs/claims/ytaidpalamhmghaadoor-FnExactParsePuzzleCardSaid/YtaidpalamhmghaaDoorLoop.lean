/- Loops: states that tell less; nil slices as rows of their own; counting loops. No condition. -/
import Derived.Test.YtaidpalamhmghaaDoorDraw
namespace Go.Proofs.YtaidpalamhmghaaDoor.X
open Go.RowKit
set_option linter.unusedVariables false
set_option linter.unusedSimpArgs false

theorem Sub.trans {D0 : List Nat} {s t u : St} (h : Sub D0 s t) (g : Sub D0 t u) : Sub D0 s u := fun N x ρ a w hx hA hW => by
  obtain ⟨ρ', h1, h2⟩ := h N x ρ a w hx hA hW
  exact g N x ρ' a w hx h1 h2

theorem Sub.refl (D0 : List Nat) (s : St) : Sub D0 s s := fun N x ρ a w _ hA hW => ⟨ρ, hA, hW⟩

/-! ### A nil slice as a row of its own -/
def C.unnil (z : Nat) : C → C
  | .sl r => match Nat.beq r z with
    | true => .val (.slice none 0 0)
    | false => .sl r
  | c => c
def V.unnil (z : Nat) : V → V
  | .c x => .c (x.unnil z)
  | .agg l => .agg (l.map (C.unnil z))
def E.unnil (z : Nat) : E → E
  | .v x => .v (x.unnil z)
  | .tup l => .tup (l.map (V.unnil z))
  | .und => .und
def Res.unnil (z : Nat) : Res → Res
  | .box T cs => .box T (cs.map (C.unnil z))
  | R => R
def unnilM (z : Nat) (m : Mem) : Mem := m.map fun p => (p.1, p.2.unnil z)

def Nm.nil (ρ : Nm) (z : Nat) : Nm := ρ.upd z (ρ.adr z) none 0 0

theorem C.den_unnil {ρ : Nm} {z : Nat} {c : C} (h : z ∉ (c.unnil z).names) : (c.unnil z).den ρ = c.den (ρ.nil z) := by
  have key : z ∉ c.names → c.den ρ = c.den (ρ.nil z) := fun hn => c.den_congr fun r hr => ρ.upd_agree fun e => hn (e ▸ hr)
  cases c with
  | sl r =>
    simp only [C.unnil] at h ⊢
    split
    · rename_i hb
      have := Nat.eq_of_beq_eq_true hb
      subst this
      simp [C.den, Nm.nil, Nm.upd]
    · rename_i hb
      rw [hb] at h
      exact key h
  | _ => exact key h

theorem C.den_list_unnil {ρ : Nm} {z : Nat} {l : List C} (h : z ∉ (l.map (C.unnil z)).flatMap C.names) : (l.map (C.unnil z)).map (C.den ρ) = l.map (C.den (ρ.nil z)) := by
  rw [List.map_map]
  exact List.map_congr_left fun c hc => C.den_unnil fun hz => h (List.mem_flatMap.2 ⟨_, List.mem_map.2 ⟨c, hc, rfl⟩, hz⟩)

theorem V.den_unnil {ρ : Nm} {z : Nat} {v : V} (h : z ∉ (v.unnil z).names) : (v.unnil z).den ρ = v.den (ρ.nil z) := by
  cases v with
  | c x => exact C.den_unnil h
  | agg l => simp only [V.unnil, V.den, C.den_list_unnil h]

theorem V.den_list_unnil {ρ : Nm} {z : Nat} {l : List V} (h : z ∉ (l.map (V.unnil z)).flatMap V.names) : (l.map (V.unnil z)).map (V.den ρ) = l.map (V.den (ρ.nil z)) := by
  rw [List.map_map]
  exact List.map_congr_left fun c hc => V.den_unnil fun hz => h (List.mem_flatMap.2 ⟨_, List.mem_map.2 ⟨c, hc, rfl⟩, hz⟩)

theorem E.den_unnil {ρ : Nm} {z : Nat} {e : E} (h : z ∉ (e.unnil z).names) : (e.unnil z).den ρ = e.den (ρ.nil z) := by
  cases e with
  | v x => exact V.den_unnil h
  | tup l => simp only [E.unnil, E.den, V.den_list_unnil h]
  | und => rfl

theorem MemSat.unnil {ρ : Nm} {z : Nat} : ∀ {m : Mem} {w : World} {F : Nat → Prop}, (∀ p ∈ unnilM z m, p.1 ≠ z ∧ z ∉ p.2.names) → MemSat ρ (unnilM z m) w F → MemSat (ρ.nil z) m w F
  | [], w, F, _, h => h
  | (r, R) :: m, w, F, hz, h => by
    obtain ⟨F1, F2, hF, hd, hR, hm⟩ := h
    have h0 := hz (r, R.unnil z) (by simp [unnilM])
    refine ⟨F1, F2, hF, hd, ?_, MemSat.unnil (fun p hp => hz p (List.mem_cons_of_mem _ hp)) hm⟩
    have hag : ∀ d, d ≠ z → ρ.agree (ρ.nil z) d := fun d hd => ρ.upd_agree hd
    cases R with
    | box T cs =>
      refine ⟨fun b => by rw [hR.1 b, (hag r h0.1).1], ?_⟩
      have := hR.2
      rw [C.den_list_unnil (by simpa [Res.unnil, Res.names] using h0.2), (hag r h0.1).1] at this
      exact this
    | sl T sz es => exact Res.holds_congr (R := .sl T sz es) (hag r h0.1) (fun d hd => by simp [Res.names] at hd) hR
    | ro o T sz es => exact Res.holds_congr (R := .ro o T sz es) (hag r h0.1) (fun d hd => by simp [Res.names] at hd) hR
    | pr p loc lt => exact Res.holds_congr (R := .pr p loc lt) (hag r h0.1) (fun d hd => by simp [Res.names] at hd) hR
    | ext X => exact Res.holds_congr (R := .ext X) (hag r h0.1) (fun d hd => hag d fun e => h0.2 (e ▸ hd)) hR

theorem SatW.unnil {x : Cx} {ρ : Nm} {z : Nat} {m : Mem} {w : World} (hD : z ∉ x.D0) (hz : ∀ p ∈ unnilM z m, p.1 ≠ z ∧ z ∉ p.2.names) (T : TypeId) (sz : Nat) (h : SatW x ρ (unnilM z m) w) :
    SatW x (ρ.nil z) ((z, .sl T sz []) :: m) w := by
  obtain ⟨F, hF, h0⟩ := h.mem
  refine ⟨⟨F, ⟨fun _ => False, F, fun b => by simp, fun b h => h.elim, ⟨fun x hx => (List.not_mem_nil hx).elim, by simp [Nm.nil, Nm.upd], .inr ⟨fun b h => h, rfl, by simp [Nm.nil, Nm.upd]⟩⟩, hF.unnil hz⟩, h0⟩, h.os, h.tape, h.output, h.size, h.keep, fun r hr => ?_⟩
  exact (h.agr r hr).trans (ρ.upd_agree fun e => hD (e ▸ hr))

def subEnvN (z : Nat) (s : Env) : Env → Prop
  | [] => True
  | (d, e) :: r => look s d = some (e.unnil z) ∧ subEnvN z s r

theorem subEnvN_get {z : Nat} {s : Env} : ∀ {t : Env}, subEnvN z s t → ∀ {d : Nat} {e : E}, (d, e) ∈ t → look s d = some (e.unnil z)
  | [], _, _, _, h => by cases h
  | (k, e') :: r, hs, d, e, h => by
    rcases List.mem_cons.1 h with h | h
    · simp only [Prod.mk.injEq] at h
      obtain ⟨rfl, rfl⟩ := h
      exact hs.1
    · exact subEnvN_get hs.2 h

/-- A nil slice is a row of no elements; 'z' is its new name. -/
theorem Sub.nil {D0 : List Nat} {s : St} {env : Env} {m : Mem} (z : Nat) (T : TypeId) (sz : Nat) (henv : subEnvN z s.env env) (hmem : s.mem = unnilM z m) (hfr : freshN D0 s.env s.mem z = true) :
    Sub D0 s ⟨env, (z, .sl T sz []) :: m⟩ := by
  intro N x ρ a w hx hA hW
  have hfr' := freshN_spec hfr
  refine ⟨ρ.nil z, ⟨hA.dfr, hA.size, fun d e he => ?_⟩, ?_⟩
  · have hl := subEnvN_get henv (look_mem he)
    rw [hA.env d _ hl, E.den_unnil (hfr'.2.1 _ (look_mem hl))]
  · rw [hmem] at hW hfr'
    exact hW.unnil (hx ▸ hfr'.1) hfr'.2.2 T sz

theorem pk_unnil {ρ : Nm} {z : Nat} (vs : List V) (h : z ∉ (vs.map (V.unnil z)).flatMap V.names) : pk ρ (vs.map (V.unnil z)) = pk (ρ.nil z) vs := by
  match vs with
  | [] => rfl
  | [v] => exact V.den_unnil (by simpa using h)
  | v :: u :: l =>
    have := V.den_list_unnil (ρ := ρ) h
    simp only [pk, List.map_cons] at this ⊢
    rw [this]

theorem RetVC.nil {D0 : List Nat} {vals : List V} {mem : Mem} {post : List V → Mem → Prop} (z : Nat) (T : TypeId) (sz : Nat) (vs : List V) (m : Mem) (hv : vals = vs.map (V.unnil z)) (hmem : mem = unnilM z m)
    (hfr : freshN D0 [(0, .tup vals)] mem z = true) (h : RetVC D0 vs ((z, .sl T sz []) :: m) post) : RetVC D0 vals mem post := by
  obtain ⟨⟨vs', m', hp, hs⟩⟩ := h
  refine ⟨⟨vs', m', hp, fun x ρ w hx hW => ?_⟩⟩
  have hfr' := freshN_spec hfr
  subst hmem hv
  obtain ⟨ρ', h1, h2⟩ := hs x (ρ.nil z) w hx (hW.unnil (hx ▸ hfr'.1) hfr'.2.2 T sz)
  exact ⟨ρ', h1, by rw [← h2]; exact pk_unnil vs (by simpa [E.names] using hfr'.2.1 (0, .tup (vs.map (V.unnil z))) (by simp))⟩

/-! ### Loops -/
theorem LoopVC.mk {D0 : List Nat} {body : WK} {s : St} {K : Exit → St → Prop} {G : Type} (S : G → St) (I : G → Prop) (μ : G → Nat) (g0 : G) (h0 : I g0) (hs : Sub D0 s (S g0))
    (h : ∀ g, I g → body (S g) fun e s' => match e with
      | .normal => ∃ g', I g' ∧ μ g' < μ g ∧ Sub D0 s' (S g')
      | e => K e s') : LoopVC D0 body s K := ⟨⟨G, S, I, μ, g0, h0, hs, fun g hg => ⟨_, h g hg, fun e s' h => h⟩⟩⟩

/-- At most n rounds, walked one by one. -/
@[reducible] def LoopN (D0 : List Nat) (body : WK) (K : Exit → St → Prop) (n : Nat) : St → Prop :=
  Nat.rec (motive := fun _ => St → Prop) (fun _ => False) (fun m next s => body s fun e s' => match e with
    | .normal => ∃ t, next t ∧ Sub D0 s' t
    | e => K e s') n

theorem LoopVC.rounds {D0 : List Nat} {body : WK} {s : St} {K : Exit → St → Prop} (n : Nat) (h : LoopN D0 body K n s) : LoopVC D0 body s K := by
  refine ⟨⟨Nat × St, fun g => g.2, fun g => LoopN D0 body K g.1 g.2, fun g => g.1, (n, s), h, Sub.refl _ _, fun g hg => ?_⟩⟩
  obtain ⟨m, st⟩ := g
  cases m with
  | zero => exact hg.elim
  | succ m =>
    refine ⟨_, hg, fun e s' h => ?_⟩
    cases e with
    | normal =>
      obtain ⟨t, h1, h2⟩ := h
      exact ⟨(m, t), h1, Nat.lt_succ_self _, h2⟩
    | _ => exact h

theorem LoopN.go {D0 : List Nat} {s : St} {next : St → Prop} (h : next s) : ∃ t, next t ∧ Sub D0 s t := ⟨s, h, Sub.refl _ _⟩
theorem LoopN.drop {D0 : List Nat} {s : St} {next : St → Prop} (t : St) (hs : Sub D0 s t) (h : next t) : ∃ t, next t ∧ Sub D0 s t := ⟨t, h, hs⟩

end Go.Proofs.YtaidpalamhmghaaDoor.X
