/- From the contract of a law that reads a slice of moves to its row. No condition. -/
import Derived.Test.YtaidpalamhmghaaDoorRowR
namespace Go.Proofs.YtaidpalamhmghaaDoor.X
open Go.RowKit Go.Deep Go.ChangeShapes Go.WideShapes Go.Joins
set_option linter.unusedVariables false
set_option linter.unusedSimpArgs false

/-- A slice of structs of two whole numbers, opened. -/
theorem open_ints2 {H : Type} {enc : TypeId × Value → H} {P : Program} {W : World} {base : Nat} {spare : Nat → Bool} {held : Bool} {t e : TypeId} {f0 f1 : Field} {fuel : Nat} {cs : List Value} {x : DataW H × List MemPlace}
    (ht : P.underlying t = some (.slice e)) (he : P.underlying e = some (.struct #[f0, f1])) (ce : P.cellsOf e = 2) (o0 : f0.offset = 0) (o1 : f1.offset = 1)
    (c0 : P.cellsOf f0.type = 1) (c1 : P.cellsOf f1.type = 1)
    (k0 : P.underlying f0.type = some (.int .i64)) (k1 : P.underlying f1.type = some (.int .i64))
    (h : DataW.trod enc P W base spare held fuel t cs = some x) (T : TypeId) :
    ∃ (b : Option Addr) (n c : Nat) (l : List (Int × Int)) (o : Obj) (F : Nat → Prop), cs = [.slice b n c] ∧ l.length ≤ maxLen ∧
      Res.holds (nmS 1000 b n c) 1000 W F (.ro o T 2 (l.map fun c => [.int .i64 c.1, .int .i64 c.2])) ∧ ∀ b, F b → (l.map fun c => [C.int .i64 c.1, .int .i64 c.2]) ≠ [] := by
  rcases open_slice ht h with ⟨rfl, _⟩ | ⟨a, len, cap, m, n, D, Pl, rfl, hb, hl, hm, hmm, rfl, hx⟩
  · refine ⟨none, 0, 0, [], .cells #[] 0 (0, 0), fun _ => False, rfl, Nat.zero_le _, ⟨fun x hx => by simp at hx, by simp [nmS, Nm.upd], by simp [nmS, Nm.upd], .inl ⟨fun b h => h, rfl, fun _ => by simp [nmS, Nm.upd]⟩⟩, fun b h => h.elim⟩
  · have hlm : len ≤ m := by rw [hmm]; split <;> omega
    have each : ∀ i, i < len → ∃ q : Int × Int, W.cell? ((a.add (i * 2)).add 0) = some (.int .i64 q.1) ∧ W.cell? ((a.add (i * 2)).add 1) = some (.int .i64 q.2) := by
      intro i hi
      obtain ⟨cs', h1, h2⟩ := hx i (by omega)
      rw [ce] at h1
      obtain ⟨_, hlen, hcell⟩ := World.cells?_some h1
      obtain ⟨xs, k, hk, hxy, _, hxl, hf⟩ := DataW.trod_struct he h2
      match xs, hxl, cs', hlen with
      | [y0, y1], _, [v0, v1], _ =>
        have g0 := hf 0 f0 rfl
        have g1 := hf 1 f1 rfl
        simp [o0, o1, c0, c1] at g0 g1
        obtain ⟨n0, e0, _⟩ := DataW.trod_int k0 g0
        obtain ⟨n1, e1, _⟩ := DataW.trod_int k1 g1
        simp at e0 e1
        subst e0 e1
        exact ⟨(n0, n1), by simpa using hcell 0 (by omega), by simpa using hcell 1 (by omega)⟩
    obtain ⟨q, hq⟩ := choose_lt (α := Int × Int) each
    let l := (List.range len).map q
    have hpl : plainEs 2 (l.map fun c => [C.int .i64 c.1, .int .i64 c.2]) := fun x hx => by
      obtain ⟨c, _, rfl⟩ := List.mem_map.1 hx
      exact ⟨rfl, fun c hc => by simp at hc; rcases hc with rfl | rfl <;> exact ⟨rfl, rfl⟩⟩
    obtain ⟨o, F, h1, h2⟩ := ro_of (ρ := nmS 1000 (some a) len cap) (r := 1000) (W := W) (T := T) (sz := 2) (len := len) (cap := cap) (a := a) hpl (by omega) (by simp [l]) hl (by simp [nmS, Nm.upd]) (by simp [nmS, Nm.upd]) (by simp [nmS, Nm.upd]) (fun i x hi qq c hc => by
      have hi' : i < len := by
        have := (List.getElem?_eq_some_iff.1 hi).1
        simpa [l] using this
      have hxe : x = [C.int .i64 (q i).1, .int .i64 (q i).2] := by
        simp [l, hi'] at hi
        exact hi.symm
      subst hxe
      obtain ⟨w0, w1⟩ := hq i hi'
      match qq, hc with
      | 0, hc => simp at hc; subst hc; exact w0
      | 1, hc => simp at hc; subst hc; exact w1)
    exact ⟨some a, len, cap, l, o, F, rfl, by simp [l]; omega, h1, h2⟩
end Go.Proofs.YtaidpalamhmghaaDoor.X
