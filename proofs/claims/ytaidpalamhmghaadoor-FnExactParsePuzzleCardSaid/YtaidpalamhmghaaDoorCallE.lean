/- Contracts whose results leave something open, under other names. No condition. -/
import Derived.Test.YtaidpalamhmghaaDoorCall
namespace Go.Proofs.YtaidpalamhmghaaDoor.X
open Go.RowKit
set_option linter.unusedVariables false
set_option linter.unusedSimpArgs false

/-- What a contract leaves open: some X, of which 'ok' holds. -/
def exRes {X : Type} (ok : X → Prop) (res : X → List V) (mm : X → Mem) : List V → Mem → Prop := fun vs m => ∃ x, ok x ∧ vs = res x ∧ m = mm x

theorem Spec.renE {P : Program} {f : FuncId} {args : List V} {pre : Mem} {X : Type} {ok : X → Prop} {res : X → List V} {mm : X → Mem} (σ τ : List (Nat × Nat)) (h : Spec P f args pre (exRes ok res mm))
    (hr : ∀ x, ((res x).map (V.ren σ)).map (V.ren τ) = res x) (hm : ∀ x, renM τ (renM σ (mm x)) = mm x)
    (hi : ((memNames (renM σ pre)).all fun r => Nat.beq (rnm σ (rnm τ r)) r && hasN (memNames pre) (rnm τ r)) = true) :
    Spec P f (args.map (V.ren σ)) (renM σ pre) (exRes ok (fun x => (res x).map (V.ren σ)) (fun x => renM σ (mm x))) := by
  refine ⟨h.1, fun ρ w F hM => ?_⟩
  have h1 := h.run (ρ.comp σ) w F hM.ren
  have ha : (args.map (V.ren σ)).map (V.den ρ) = args.map (V.den (ρ.comp σ)) := by
    rw [List.map_map]; exact List.map_congr_left fun v _ => v.den_ren ρ σ
  rw [ha]
  refine h1.mono ?_
  rintro e w' ⟨ρ', vs, m', F', ⟨x, hx, rfl, rfl⟩, rfl, q3, q4, q5, q6⟩
  refine ⟨ρ'.comp τ, _, _, F', ⟨x, hx, rfl, rfl⟩, ?_, ?_, q4, q5, fun r hrm => ?_⟩
  · rw [← pk_ren, hr]
  · refine MemSat.ren ?_
    rw [hm]; exact q3
  · have := List.all_eq_true.1 hi r hrm
    simp only [Bool.and_eq_true] at this
    have e1 := Nat.eq_of_beq_eq_true this.1
    have e2 : rnm τ r ∈ memNames pre := by
      obtain ⟨y, hy, hb⟩ := List.any_eq_true.1 this.2
      have := Nat.eq_of_beq_eq_true hb
      exact this ▸ hy
    have := q6 _ e2
    simp only [Nm.agree, Nm.comp, e1] at this ⊢
    exact this

/-- A call that leaves something open. -/
theorem CallVC.ex {P : Program} {D0 : List Nat} {f : FuncId} {args : List V} {env : Env} {mem : Mem} {K : List V → Mem → Prop} {pre rest : Mem} {X : Type} {ok : X → Prop} {res : X → List V} {mm : X → Mem}
    (L : List Nat) (hp : pickL mem L = some (pre, rest)) (hs : Spec P f args pre (exRes ok res mm)) (hk : ∀ x, ok x → okRes D0 env rest (memNames pre) (res x) (mm x) = true ∧ K (res x) (mm x ++ rest)) : CallVC P D0 f args env mem K :=
  CallVC.mk L hp hs fun vs m' ⟨x, hx, h1, h2⟩ => by subst h1 h2; exact hk x hx
end Go.Proofs.YtaidpalamhmghaaDoor.X
