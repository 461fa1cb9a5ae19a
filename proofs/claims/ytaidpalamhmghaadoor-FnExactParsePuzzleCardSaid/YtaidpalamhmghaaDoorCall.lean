/- Contracts under other names; calls that hand back new rows. No condition. -/
import Derived.Test.YtaidpalamhmghaaDoorLoop
namespace Go.Proofs.YtaidpalamhmghaaDoor.X
open Go.RowKit
set_option linter.unusedVariables false
set_option linter.unusedSimpArgs false

theorem Nm.comp_agree {ρ ρ' : Nm} {σ : List (Nat × Nat)} {r : Nat} (h : ρ.agree ρ' (rnm σ r)) : (ρ.comp σ).agree (ρ'.comp σ) r := h

/-- A contract under other names: 'σ' leads from its names to the caller's, 'τ' back. -/
theorem Spec.ren {P : Program} {f : FuncId} {args res : List V} {pre m : Mem} (σ τ : List (Nat × Nat)) (h : Spec P f args pre (isRes res m)) (hr : (res.map (V.ren σ)).map (V.ren τ) = res) (hm : renM τ (renM σ m) = m)
    (hi : ((memNames (renM σ pre)).all fun r => Nat.beq (rnm σ (rnm τ r)) r && hasN (memNames pre) (rnm τ r)) = true) :
    Spec P f (args.map (V.ren σ)) (renM σ pre) (isRes (res.map (V.ren σ)) (renM σ m)) := by
  refine ⟨h.1, fun ρ w F hM => ?_⟩
  have h1 := h.run (ρ.comp σ) w F hM.ren
  have ha : (args.map (V.ren σ)).map (V.den ρ) = args.map (V.den (ρ.comp σ)) := by
    rw [List.map_map]; exact List.map_congr_left fun v _ => v.den_ren ρ σ
  rw [ha]
  refine h1.mono ?_
  rintro e w' ⟨ρ', vs, m', F', ⟨rfl, rfl⟩, rfl, q3, q4, q5, q6⟩
  refine ⟨ρ'.comp τ, _, _, F', ⟨rfl, rfl⟩, ?_, ?_, q4, q5, fun r hrm => ?_⟩
  · rw [← pk_ren, hr]
  · refine MemSat.ren ?_
    rw [hm]; exact q3
  · have := List.all_eq_true.1 hi r hrm
    simp only [Bool.and_eq_true] at this
    have e1 := Nat.eq_of_beq_eq_true this.1
    have e2 : rnm τ r ∈ memNames pre := by
      obtain ⟨y, hy, hb⟩ := List.any_eq_true.1 this.2
      have := Nat.eq_of_beq_eq_true hb
      exact this ▸ hy
    have := q6 _ e2
    simp only [Nm.agree, Nm.comp, e1] at this ⊢
    exact this

/-- A call whose results are known. -/
theorem CallVC.res {P : Program} {D0 : List Nat} {f : FuncId} {args : List V} {env : Env} {mem : Mem} {K : List V → Mem → Prop} {pre rest m : Mem} {res : List V}
    (L : List Nat) (hp : pickL mem L = some (pre, rest)) (hs : Spec P f args pre (isRes res m)) (hok : okRes D0 env rest (memNames pre) res m = true) (hk : K res (m ++ rest)) : CallVC P D0 f args env mem K :=
  CallVC.mk L hp hs fun vs m' ⟨h1, h2⟩ => by subst h1 h2; exact ⟨hok, hk⟩

/-- A nil slice that is handed over (or lies in a box) is a row of no elements; 'z' is its new name. -/
theorem CallVC.nil {P : Program} {D0 : List Nat} {f : FuncId} {args : List V} {env : Env} {mem : Mem} {K : List V → Mem → Prop} (z : Nat) (T : TypeId) (sz : Nat) (args' : List V) (m' : Mem)
    (hv : args = args'.map (V.unnil z)) (hmem : mem = unnilM z m') (hfr : freshN D0 ((0, .tup args) :: env) mem z = true) (h : CallVC P D0 f args' env ((z, .sl T sz []) :: m') K) : CallVC P D0 f args env mem K := by
  constructor
  refine ⟨h.out.1, fun x ρ w R hx hW hk => ?_⟩
  have hfr' := freshN_spec hfr
  subst hmem hv
  have hW' := hW.unnil (hx ▸ hfr'.1) hfr'.2.2 T sz
  have := h.out.2 x (ρ.nil z) w R hx hW' fun vs m ρ' w' hK hag hW'' => hk vs m ρ' w' hK (fun p hp r hr => (show ρ.agree (ρ.nil z) r from ρ.upd_agree fun e => hfr'.2.1 p (List.mem_cons_of_mem _ hp) (e ▸ hr)).trans (hag p hp r hr)) hW''
  rw [V.den_list_unnil (by simpa [E.names] using hfr'.2.1 (0, .tup (args'.map (V.unnil z))) (by simp))]
  exact this

/-- A contract of a function whose results are known, in a greater memory. -/
theorem Spec.weaken {P : Program} {f : FuncId} {args : List V} {pre : Mem} {post post' : List V → Mem → Prop} (h : Spec P f args pre post) (hp : ∀ vs m, post vs m → post' vs m) : Spec P f args pre post' :=
  ⟨h.1, fun ρ w F hM => (h.run ρ w F hM).mono fun e w' ⟨ρ', vs, m, F', h1, h2⟩ => ⟨ρ', vs, m, F', hp _ _ h1, h2⟩⟩

end Go.Proofs.YtaidpalamhmghaaDoor.X
