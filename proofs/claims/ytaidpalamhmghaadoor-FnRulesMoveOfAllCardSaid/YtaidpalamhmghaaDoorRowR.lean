/- From the contract of a law that reads a slice argument to its row. No condition. -/
import Derived.Test.YtaidpalamhmghaaDoorCall
import Derived.Test.YtaidpalamhmghaaDoorRow
import Derived.Deep.Slices
import Derived.Lib.SmallJoins
namespace Go.Proofs.YtaidpalamhmghaaDoor.X
open Go.RowKit Go.Deep Go.ChangeShapes Go.WideShapes Go.Joins
set_option linter.unusedVariables false
set_option linter.unusedSimpArgs false

/-- A law that reads one row: it returns, and nothing that was there has turned. -/
theorem Spec.walkRo {P : Program} {f : FuncId} {args : List V} {b : Bool} {r : Nat} {o : Obj} {T : TypeId} {sz : Nat} {es : List (List C)}
    (h : Spec P f args [(r, .ro o T sz es)] (isRes [.c (.bool b)] [(r, .ro o T sz es)])) {ρ : Nm} {W : World} {F : Nat → Prop} (hR : Res.holds ρ r W F (.ro o T sz es)) (hne : ∀ b, F b → es ≠ []) :
    Calls P f (args.map (V.den ρ)).toArray W fun e W' => e = .returned (.bool b) ∧ Below W.heap.size W W' := by
  have hM : MemSat ρ [(r, .ro o T sz es)] W F := ⟨F, fun _ => False, fun b => by simp, fun b _ h => h, hR, fun b h => h⟩
  refine (h.2 ρ W F hM).mono ?_
  rintro e w' ⟨ρ', vs, m, F', ⟨rfl, rfl⟩, rfl, q3, q4, q5, q6⟩
  refine ⟨rfl, q5.os, q5.tape, q5.output, q5.size, fun k hk => ?_⟩
  by_cases hF : F k
  · obtain ⟨F1, F2, _, _, h1, _⟩ := q3
    obtain ⟨_, _, _, ⟨g, _⟩ | ⟨a, ha, g1, g2, _⟩⟩ := hR
    · exact (g k hF).elim
    · obtain ⟨_, _, _, ⟨_, g', _⟩ | ⟨a', ha', _, g2', _⟩⟩ := h1
      · exact absurd g' (hne k hF)
      · have hag := (q6 r (by simp [memNames])).2.1
        rw [ha, ha'] at hag
        obtain rfl := Option.some.inj hag
        have := (g1 k).1 hF
        subst this
        rw [g2, g2']
  · exact q5.keep k hk hF

theorem flat_inv {ρ : Nm} {sz : Nat} : ∀ {es : List (List C)}, (∀ x ∈ es, x.length = sz) → ∀ {j : Nat} {u : Value}, (flat ρ es)[j]? = some u → ∃ i x r c, j = i * sz + r ∧ es[i]? = some x ∧ x[r]? = some c ∧ u = c.den ρ
  | [], _, j, u, h => by simp [flat] at h
  | x :: es, hs, j, u, h => by
    have hx : x.length = sz := hs x (by simp)
    have hf : flat ρ (x :: es) = x.map (C.den ρ) ++ flat ρ es := by simp [flat]
    rw [hf] at h
    by_cases hj : j < sz
    · rw [List.getElem?_append_left (by simp; omega), List.getElem?_map] at h
      obtain ⟨c, hc, rfl⟩ := Option.map_eq_some_iff.1 h
      exact ⟨0, x, j, c, by simp, rfl, hc, rfl⟩
    · rw [List.getElem?_append_right (by simp; omega)] at h
      simp only [List.length_map, hx] at h
      obtain ⟨i, y, r, c, h1, h2, h3, h4⟩ := flat_inv (fun y hy => hs y (by simp [hy])) h
      exact ⟨i + 1, y, r, c, by rw [Nat.succ_mul]; omega, by simpa using h2, h3, h4⟩

/-- A slice whose element number i lies in the cells 'x i'. -/
theorem ro_of {ρ : Nm} {r : Nat} {W : World} {T : TypeId} {sz len cap : Nat} {a : Addr} {es : List (List C)} (hpl : plainEs sz es) (hsz : 0 < sz) (hlen : es.length = len) (hlc : len ≤ cap)
    (hb : ρ.rb r = some a) (hn : ρ.rn r = len) (hc : ρ.rc r = cap) (hcell : ∀ i x, es[i]? = some x → ∀ q c, x[q]? = some c → W.cell? ((a.add (i * sz)).add q) = some (c.den ρ)) :
    ∃ o F, Res.holds ρ r W F (.ro o T sz es) ∧ ∀ b, F b → es ≠ [] := by
  cases es with
  | nil => exact ⟨.cells #[] 0 (0, 0), fun _ => False, ⟨hpl, by simpa [hn] using hlen.symm, by omega, .inl ⟨fun b h => h, rfl, fun h => by rw [hb] at h; cases h⟩⟩, fun b h => h.elim⟩
  | cons x es =>
    have hx : x.length = sz := (hpl x (by simp)).1
    have h0 := hcell 0 x rfl 0 (x[0]'(by omega)) (by simp [hx, hsz])
    have hh : ∃ o, W.heap[a.block]? = some o := by
      unfold World.cell? at h0
      rw [add_block, add_block] at h0
      cases hw : W.heap[a.block]? with
      | none => rw [hw] at h0; simp at h0
      | some o => exact ⟨o, rfl⟩
    obtain ⟨o, ho⟩ := hh
    refine ⟨o, (· = a.block), ⟨hpl, by rw [hn, ← hlen], by omega, .inr ⟨a, hb, fun b => Iff.rfl, ho, fun j u hj => ?_⟩⟩, fun b _ h => by cases h⟩
    obtain ⟨i, y, q, c, rfl, h2, h3, rfl⟩ := flat_inv (fun x hx => (hpl x hx).1) hj
    have := hcell i y h2 q c h3
    rwa [Addr.add_add'] at this

/-- The names of one slice argument. -/
def nmS (r : Nat) (b : Option Addr) (n c : Nat) : Nm := nm0.upd r 0 b n c

/-- A slice of structs of three whole numbers, opened. -/
theorem open_ints3 {H : Type} {enc : TypeId × Value → H} {P : Program} {W : World} {base : Nat} {spare : Nat → Bool} {held : Bool} {t e : TypeId} {f0 f1 f2 : Field} {fuel : Nat} {cs : List Value} {x : DataW H × List MemPlace}
    (ht : P.underlying t = some (.slice e)) (he : P.underlying e = some (.struct #[f0, f1, f2])) (ce : P.cellsOf e = 3) (o0 : f0.offset = 0) (o1 : f1.offset = 1) (o2 : f2.offset = 2)
    (c0 : P.cellsOf f0.type = 1) (c1 : P.cellsOf f1.type = 1) (c2 : P.cellsOf f2.type = 1)
    (k0 : P.underlying f0.type = some (.int .i64)) (k1 : P.underlying f1.type = some (.int .i64)) (k2 : P.underlying f2.type = some (.int .i64))
    (h : DataW.trod enc P W base spare held fuel t cs = some x) (T : TypeId) :
    ∃ (b : Option Addr) (n c : Nat) (l : List (Int × Int × Int)) (o : Obj) (F : Nat → Prop), cs = [.slice b n c] ∧ l.length ≤ maxLen ∧
      Res.holds (nmS 1000 b n c) 1000 W F (.ro o T 3 (l.map fun c => [.int .i64 c.1, .int .i64 c.2.1, .int .i64 c.2.2])) ∧ ∀ b, F b → (l.map fun c => [C.int .i64 c.1, .int .i64 c.2.1, .int .i64 c.2.2]) ≠ [] := by
  rcases open_slice ht h with ⟨rfl, _⟩ | ⟨a, len, cap, m, n, D, Pl, rfl, hb, hl, hm, hmm, rfl, hx⟩
  · refine ⟨none, 0, 0, [], .cells #[] 0 (0, 0), fun _ => False, rfl, Nat.zero_le _, ⟨fun x hx => by simp at hx, by simp [nmS, Nm.upd], by simp [nmS, Nm.upd], .inl ⟨fun b h => h, rfl, fun _ => by simp [nmS, Nm.upd]⟩⟩, fun b h => h.elim⟩
  · have hlm : len ≤ m := by rw [hmm]; split <;> omega
    have each : ∀ i, i < len → ∃ q : Int × Int × Int, W.cell? ((a.add (i * 3)).add 0) = some (.int .i64 q.1) ∧ W.cell? ((a.add (i * 3)).add 1) = some (.int .i64 q.2.1) ∧ W.cell? ((a.add (i * 3)).add 2) = some (.int .i64 q.2.2) := by
      intro i hi
      obtain ⟨cs', h1, h2⟩ := hx i (by omega)
      rw [ce] at h1
      obtain ⟨_, hlen, hcell⟩ := World.cells?_some h1
      obtain ⟨xs, k, hk, hxy, _, hxl, hf⟩ := DataW.trod_struct he h2
      match xs, hxl, cs', hlen with
      | [y0, y1, y2], _, [v0, v1, v2], _ =>
        have g0 := hf 0 f0 rfl
        have g1 := hf 1 f1 rfl
        have g2 := hf 2 f2 rfl
        simp [o0, o1, o2, c0, c1, c2] at g0 g1 g2
        obtain ⟨n0, e0, _⟩ := DataW.trod_int k0 g0
        obtain ⟨n1, e1, _⟩ := DataW.trod_int k1 g1
        obtain ⟨n2, e2, _⟩ := DataW.trod_int k2 g2
        simp at e0 e1 e2
        subst e0 e1 e2
        exact ⟨(n0, n1, n2), by simpa using hcell 0 (by omega), by simpa using hcell 1 (by omega), by simpa using hcell 2 (by omega)⟩
    obtain ⟨q, hq⟩ := choose_lt (α := Int × Int × Int) each
    let l := (List.range len).map q
    have hpl : plainEs 3 (l.map fun c => [C.int .i64 c.1, .int .i64 c.2.1, .int .i64 c.2.2]) := fun x hx => by
      obtain ⟨c, _, rfl⟩ := List.mem_map.1 hx
      exact ⟨rfl, fun c hc => by simp at hc; rcases hc with rfl | rfl | rfl <;> exact ⟨rfl, rfl⟩⟩
    obtain ⟨o, F, h1, h2⟩ := ro_of (ρ := nmS 1000 (some a) len cap) (r := 1000) (W := W) (T := T) (sz := 3) (len := len) (cap := cap) (a := a) hpl (by omega) (by simp [l]) hl (by simp [nmS, Nm.upd]) (by simp [nmS, Nm.upd]) (by simp [nmS, Nm.upd]) (fun i x hi qq c hc => by
      have hi' : i < len := by
        have := (List.getElem?_eq_some_iff.1 hi).1
        simpa [l] using this
      have hxe : x = [C.int .i64 (q i).1, .int .i64 (q i).2.1, .int .i64 (q i).2.2] := by
        simp [l, hi'] at hi
        exact hi.symm
      subst hxe
      obtain ⟨w0, w1, w2⟩ := hq i hi'
      match qq, hc with
      | 0, hc => simp at hc; subst hc; exact w0
      | 1, hc => simp at hc; subst hc; exact w1
      | 2, hc => simp at hc; subst hc; exact w2)
    exact ⟨some a, len, cap, l, o, F, rfl, by simp [l]; omega, h1, h2⟩

end Go.Proofs.YtaidpalamhmghaaDoor.X
