/- strings.Join over a row of texts. No condition beyond each statement's. -/
import Derived.Test.YtaidpalamhmghaaDoorLib
namespace Go.Proofs.YtaidpalamhmghaaDoor.X
open Go.Proofs Go.Shelf Go.RowKit
set_option maxRecDepth 100000
set_option linter.unusedVariables false
set_option linter.unusedSimpArgs false

theorem strE_flat (ρ : Nm) (ls : List Tx) : flat ρ (strE ls) = ls.map fun l => Value.string ⟨l.toArray⟩ := by
  unfold flat strE
  induction ls with
  | nil => rfl
  | cons b l ih => simp only [List.map_cons, List.flatten_cons, List.singleton_append]; rw [ih]; rfl

theorem join_spec (ls : List Tx) (sep : Tx) (h : (Lib.join ls sep).length ≤ 140737488355328) (hn : ls.length ≤ 140737488355328) :
    Spec Tryd.prog 113 [.c (.sl 1000), .c (.str sep)] [(1000, .sl 9 1 (strE ls))] (isRes [.c (.str (Lib.join ls sep))] [(1000, .sl 9 1 (strE ls))]) := by
  refine ⟨⟨_, Tryd.func113, by kernel_rfl, rfl⟩, fun ρ w F hM => ?_⟩
  have hM0 := hM
  obtain ⟨F1, F2, hF, _, hR, h0⟩ := hM
  have hrow := row_ok hR (isRow.sl _)
  obtain ⟨_, hrn, hcase⟩ := hR
  rw [strE_len] at hrn hrow
  have key : Calls Tryd.prog 113 #[.slice (ρ.rb 1000) ls.length (ρ.rc 1000), .string ⟨sep.toArray⟩] w fun e w' => e = .returned (.string ⟨(Lib.join ls sep).toArray⟩) ∧ Below w.heap.size w w' := by
    cases ls with
    | nil =>
      refine (Tryd.strings_Join_none (ρ.rb 1000) (ρ.rc 1000) ⟨sep.toArray⟩ w).mono ?_
      rintro e w' ⟨rfl, rfl⟩
      exact ⟨rfl, Below.refl _ _⟩
    | cons x r =>
      rcases hcase with ⟨_, _, ⟨hv, h00⟩ | ⟨g, cap, cur, hv, _, hg, _⟩⟩ | ⟨_, hes, _⟩
      · simp [strE] at h00
      · simp only [C.den, Value.slice.injEq] at hv
        have hg' : g < w.heap.size := (Array.getElem?_eq_some_iff.1 hg).1
        rcases hrow.2.2.2 with ⟨hb, _⟩ | ⟨a, ha, hcell⟩
        · rw [hv.1] at hb; cases hb
        · rw [hv.1] at ha
          obtain rfl := Option.some.inj ha
          have := Tryd.strings_Join g 0 (ρ.rc 1000) ((x :: r).map fun l => ⟨l.toArray⟩) ⟨sep.toArray⟩ w (fun j y hj => by
            have h1 : (flat ρ (strE (x :: r)))[j]? = some (.string y) := by
              rw [strE_flat]
              rw [List.getElem?_map] at hj ⊢
              cases hx : (x :: r)[j]? with
              | none => rw [hx] at hj; cases hj
              | some z => rw [hx] at hj; simp only [Option.map_some, Option.some.injEq] at hj ⊢; rw [hj]
            have h2 := hcell j _ h1
            rw [add_none] at h2
            exact h2) hg' (by simpa using hn) (by simpa using hrow.2.2.1) (by simpa [List.map_map, Function.comp_def] using h)
          rw [hv.1]
          simpa [List.map_map, Function.comp_def] using this
      · simp [strE] at hes
  have hargs : (([.c (.sl 1000), .c (.str sep)] : List V).map (V.den ρ)).toArray = #[.slice (ρ.rb 1000) ls.length (ρ.rc 1000), .string ⟨sep.toArray⟩] := by
    simp [V.den, C.den, hrn]
  rw [hargs]
  refine key.mono ?_
  rintro e w' ⟨rfl, hb⟩
  refine ⟨ρ, _, _, F, ⟨rfl, rfl⟩, rfl, hM0.frame fun b hb' => hb.block b (hM0.lt hb'), fun b hb' => .inl hb', ⟨hb.os, hb.tape, hb.output, hb.size, fun b hb' _ => hb.block b hb'⟩, fun r _ => Nm.agree.refl ρ r⟩
end Go.Proofs.YtaidpalamhmghaaDoor.X
