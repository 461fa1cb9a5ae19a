/- strings.Join over a row of texts. No condition beyond each statement's. -/
import Derived.Test.YtblihaicbhdbdaaDoorLib
namespace Go.Proofs.YtblihaicbhdbdaaDoor.X
open Go.Proofs Go.Shelf Go.RowKit
set_option maxRecDepth 100000
set_option linter.unusedVariables false
set_option linter.unusedSimpArgs false

theorem strE_flat (ρ : Nm) (ls : List Tx) : flat ρ (strE ls) = ls.map fun l => Value.string ⟨l.toArray⟩ := by
  unfold flat strE
  induction ls with
  | nil => rfl
  | cons b l ih => simp only [List.map_cons, List.flatten_cons, List.singleton_append]; rw [ih]; rfl

end Go.Proofs.YtblihaicbhdbdaaDoor.X
