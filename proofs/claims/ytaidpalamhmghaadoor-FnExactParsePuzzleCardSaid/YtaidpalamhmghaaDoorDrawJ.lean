/- A region whose order is open ends in one state, however it went. No condition. -/
import Derived.Test.YtaidpalamhmghaaDoorLoop
namespace Go.Proofs.YtaidpalamhmghaaDoor.X
set_option linter.unusedVariables false
structure SubVC (D0 : List Nat) (s t : St) : Prop where
  make ::
  out : Sub D0 s t
theorem SubVC.mk {D0 : List Nat} {s t : St} (σ : List (Nat × Nat)) (rest : Mem) (henv : subEnv σ s.env t.env) (hmem : pickL s.mem (memNames (renM σ t.mem)) = some (renM σ t.mem, rest))
    (hD : (D0.all fun r => (look σ r).isNone) = true) : SubVC D0 s t := ⟨Sub.mk σ rest henv hmem hD⟩
theorem DrawVC.join {P : Program} {N : Nat} {D0 : List Nat} {id : Nat} {ops : Array Oper} {st : St} {k : St → Prop} (t : St) (h : DrawVC P N D0 id ops st (fun s => SubVC D0 s t)) (hk : k t) : DrawVC P N D0 id ops st k := by
  constructor
  intro x ρ a w Q hx hA hW hK
  refine h.out x ρ a w Q hx hA hW ?_
  intro st' ρ' a' w' hs hA' hW'
  obtain ⟨ρ'', h1, h2⟩ := hs.out N x ρ' a' w' hx hA' hW'
  exact hK t ρ'' a' w' hk h1 h2
end Go.Proofs.YtaidpalamhmghaaDoor.X
