/- From the contract of a law that reads a slice of texts to its row. No condition. -/
import Derived.Test.YtjpabjmcooiflaaDoorRowR
import Derived.SliceStrings
namespace Go.Proofs.YtjpabjmcooiflaaDoor.X
open Go.RowKit Go.Deep Go.ChangeShapes Go.WideShapes Go.Joins
set_option linter.unusedVariables false
set_option linter.unusedSimpArgs false

theorem open_strs {H : Type} {enc : TypeId × Value → H} {P : Program} {W : World} {base : Nat} {spare : Nat → Bool} {held : Bool} {t e : TypeId} {fuel : Nat} {cs : List Value} {x : DataW H × List MemPlace}
    (ht : P.underlying t = some (.slice e)) (he : P.underlying e = some .string) (ce : P.cellsOf e = 1)
    (h : DataW.trod enc P W base spare held fuel t cs = some x) (T : TypeId) :
    ∃ (b : Option Addr) (n c : Nat) (l : List (List UInt8)) (o : Obj) (F : Nat → Prop), cs = [.slice b n c] ∧ l.length ≤ maxLen ∧ (∀ s ∈ l, s.length ≤ maxLen) ∧
      Res.holds (nmS 1000 b n c) 1000 W F (.ro o T 1 (l.map fun s => [.str s])) ∧ ∀ b, F b → (l.map fun s => [C.str s]) ≠ [] := by
  rcases Go.ChangeShapes.open_strings ht he ce h with ⟨rfl, _⟩ | ⟨a, len, cap, ss, rfl, hb, hl, hm, hmm, rfl, hx, hss⟩
  · refine ⟨none, 0, 0, [], .cells #[] 0 (0, 0), fun _ => False, rfl, Nat.zero_le _, fun s hs => by simp at hs, ⟨fun x hx => by simp at hx, by simp [nmS, Nm.upd], by simp [nmS, Nm.upd], .inl ⟨fun b h => h, rfl, fun _ => by simp [nmS, Nm.upd]⟩⟩, fun b h => h.elim⟩
  · have hlm : len ≤ ss.length := by rw [hmm]; split <;> omega
    let l := (ss.take len).map fun s => s.data.toList
    have hpl : plainEs 1 (l.map fun s => [C.str s]) := fun x hx => by
      obtain ⟨c, _, rfl⟩ := List.mem_map.1 hx
      exact ⟨rfl, fun c hc => by simp at hc; subst hc; exact ⟨rfl, rfl⟩⟩
    obtain ⟨o, F, h1, h2⟩ := ro_of (ρ := nmS 1000 (some a) len cap) (r := 1000) (W := W) (T := T) (sz := 1) (len := len) (cap := cap) (a := a) hpl (by omega) (by simp [l]; omega) hl (by simp [nmS, Nm.upd]) (by simp [nmS, Nm.upd]) (by simp [nmS, Nm.upd]) (fun i x hi qq c hc => by
      have hi' : i < len := by
        have := (List.getElem?_eq_some_iff.1 hi).1
        simp [l] at this
        omega
      have hi2 : i < ss.length := by omega
      have hxe : x = [C.str ss[i].data.toList] := by
        simp [l, List.getElem?_take, hi', List.getElem?_eq_getElem hi2] at hi
        exact hi.symm
      subst hxe
      have hcell := hx i hi2
      match qq, hc with
      | 0, hc =>
        simp at hc
        subst hc
        rw [Nat.mul_one]
        have e0 : (a.add i).add 0 = a.add i := by rw [Addr.add_add']; rfl
        rw [e0, hcell, List.getD_eq_getElem?_getD, List.getElem?_eq_getElem hi2]
        rfl)
    refine ⟨some a, len, cap, l, o, F, rfl, by simp [l]; omega, fun s hs => ?_, h1, h2⟩
    obtain ⟨z, hz, rfl⟩ := List.mem_map.1 hs
    exact hss z (List.mem_of_mem_take hz)
end Go.Proofs.YtjpabjmcooiflaaDoor.X
