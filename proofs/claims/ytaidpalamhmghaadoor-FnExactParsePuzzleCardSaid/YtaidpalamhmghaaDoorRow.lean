/- From a law's contract to its row. No condition. -/
import Derived.Test.YtaidpalamhmghaaDoorQuiet
namespace Go.Proofs.YtaidpalamhmghaaDoor.X
open Go.RowKit
set_option linter.unusedVariables false
set_option linter.unusedSimpArgs false

def nm0 : Nm := ⟨fun _ => 0, fun _ => none, fun _ => 0, fun _ => 0, fun _ _ => (none, 0, 0)⟩

/-- A law that reads no memory: it returns true, and nothing that was there has turned. -/
theorem Spec.walk {P : Program} {f : FuncId} {args res : List V} (h : Spec P f args [] (isRes res [])) (W : World) :
    Calls P f (args.map (V.den nm0)).toArray W fun e W' => e = .returned (pk nm0 (res.map id)) ∧ Below W.heap.size W W' ∨ res.flatMap V.names ≠ [] := by
  by_cases hn : res.flatMap V.names = []
  · refine (h.run nm0 W (fun _ => False) (fun b hb => hb)).mono ?_
    rintro e w' ⟨ρ', vs, m, F', ⟨rfl, rfl⟩, rfl, _, _, q5, _⟩
    refine .inl ⟨?_, q5.os, q5.tape, q5.output, q5.size, fun k hk => q5.keep k hk fun h => h⟩
    have hv : ∀ v ∈ vs, v.den ρ' = v.den nm0 := fun v hv => v.den_congr fun r hr => by
      have : r ∈ vs.flatMap V.names := List.mem_flatMap.2 ⟨v, hv, hr⟩
      rw [hn] at this; cases this
    rw [List.map_id]
    unfold pk
    split
    · rw [hv _ (by simp)]
    · rw [List.map_congr_left hv]
  · refine (h.run nm0 W (fun _ => False) (fun b hb => hb)).mono ?_
    rintro e w' _
    exact .inr hn

theorem Spec.walkB {P : Program} {f : FuncId} {args : List V} {b : Bool} (h : Spec P f args [] (isRes [.c (.bool b)] [])) (W : World) :
    Calls P f (args.map (V.den nm0)).toArray W fun e W' => e = .returned (.bool b) ∧ Below W.heap.size W W' :=
  (h.walk W).mono fun e W' q => q.elim id fun h => absurd rfl h

end Go.Proofs.YtaidpalamhmghaaDoor.X
