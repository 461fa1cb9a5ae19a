/- Lines that are reached: the program's search; whether and after how many moves. No condition beyond each statement's. -/
import Derived.Test.YtblihaicbhdbdaaBfsF
import Derived.Test.YtblihaicbhdbdaaLayers
import Derived.Test.YtblihaicbhdbdaaQueue
import Derived.Test.YtblihaicbhdbdaaEdge
namespace Go.Proofs.Ytblihaicbhdbdaa.X
open Go.Proofs
set_option maxRecDepth 100000
set_option linter.unusedVariables false
set_option linter.unusedSimpArgs false

def bE (w : Tx) (ks : List Tx) : List (C × V) := ks.map fun v => (.str v, i64 (dF w v))
theorem bE_some {w v : Tx} {x : V} : ∀ {ks : List Tx}, getM (bE w ks) (.str v) = some x → v ∈ ks ∧ x = i64 (dF w v)
  | [], h => by cases h
  | u :: ks, h => by
    simp only [bE, List.map_cons, getM] at h
    split at h
    · rename_i hk
      simp only [keyEq, decide_eq_true_eq] at hk
      subst hk
      exact ⟨by simp, (Option.some.inj h).symm⟩
    · obtain ⟨h1, h2⟩ := bE_some (ks := ks) h
      exact ⟨List.mem_cons_of_mem _ h1, h2⟩
theorem bE_mem {w v : Tx} : ∀ {ks : List Tx}, v ∈ ks → getM (bE w ks) (.str v) = some (i64 (dF w v))
  | [], h => by cases h
  | u :: ks, h => by
    simp only [bE, List.map_cons, getM]
    split
    · rename_i hk
      simp only [keyEq, decide_eq_true_eq] at hk
      subst hk; rfl
    · rename_i hk
      simp only [keyEq, decide_eq_true_eq] at hk
      exact bE_mem ((List.mem_cons.1 h).resolve_left hk)
theorem bE_none {w v : Tx} {ks : List Tx} (h : getM (bE w ks) (.str v) = none) : v ∉ ks := fun hm => by rw [bE_mem hm] at h; cases h
theorem bE_set {w v : Tx} : ∀ {ks : List Tx}, v ∉ ks → setM (bE w ks) (.str v) (i64 (dF w v)) = bE w (ks ++ [v])
  | [], h => rfl
  | u :: ks, h => by
    simp only [List.mem_cons, not_or] at h
    simp only [bE, List.map_cons, List.cons_append, setM]
    rw [if_neg (by simp only [keyEq, decide_eq_true_eq]; exact h.1)]
    exact congrArg _ (bE_set (ks := ks) h.2)
theorem bE_len (w : Tx) (ks : List Tx) : (bE w ks).length = ks.length := by simp [bE]
def okKs (w : Tx) (ks : List Tx) : Prop := ks.Nodup ∧ ∀ v, v ∈ ks ↔ ∃ k, Reach w v k

end Go.Proofs.Ytblihaicbhdbdaa.X
