/- What the row lays of the library's error variables, as the walk takes it. No condition. -/
import Derived.Test.YtaidpalamhmghaaDoorParse
import Derived.Test.YtaidpalamhmghaaDoorRows
import Derived.LaidLaws
import Derived.LaidByText
import Derived.LaidByTextLater
namespace Go.Proofs.YtaidpalamhmghaaDoor.X
open Go.Proofs Go.RowKit
set_option linter.unusedVariables false

theorem errO_cells {cs : Array Value} {u : TypeId} {v : Value} (h : cs.toList = [.iface u v]) (T : TypeId) (fr : Nat × Nat) : errO (.cells cs T fr) := fun w g hg => by
  obtain rfl : cs = #[.iface u v] := by rw [← Array.toArray_toList (xs := cs), h]
  exact ⟨.iface u v, by simp [World.cell?, hg], .inr ⟨u, v, rfl⟩⟩

theorem errObj {P : Program} {W : World} {n : String} {g : Nat} {cs : Array Value} {u : TypeId} {v : Value} (hv : W.var? P n = some cs) (hg : P.globalNamed n = some g) (hc : cs.toList = [.iface u v]) : ∃ o, W.heap[g]? = some o ∧ errO o := by
  unfold World.var? at hv
  rw [hg] at hv
  simp only [Option.bind_some] at hv
  split at hv
  · rename_i c T fr hh
    obtain rfl := Option.some.inj hv
    exact ⟨_, hh, errO_cells hc T fr⟩
  · cases hv

theorem Spec.walkErr {P : Program} {f : FuncId} {args : List V} {b : Bool} {o1 o2 : Obj} (h : Spec P f args [(1000, errR o1 o2)] (isRes [.c (.bool b)] [(1000, errR o1 o2)])) (W : World) (h1 : W.heap[1]? = some o1) (h2 : W.heap[2]? = some o2) :
    Calls P f (args.map (V.den nm0)).toArray W fun e W' => e = .returned (.bool b) ∧ Below W.heap.size W W' := by
  have hR : Res.holds nm0 1000 W (fun b => b = 1 ∨ b = 2) (errR o1 o2) := ⟨fun b => Iff.rfl, h1, h2⟩
  have hM : MemSat nm0 [(1000, errR o1 o2)] W (fun b => b = 1 ∨ b = 2) := ⟨_, fun _ => False, fun b => ⟨fun h => .inl h, fun h => h.resolve_right id⟩, fun b _ h => h, hR, fun b h => h⟩
  refine (h.run nm0 W _ hM).mono ?_
  rintro e W' ⟨ρ', vs, m, F', ⟨rfl, rfl⟩, rfl, hM', _, hfr, _⟩
  obtain ⟨F1, _, _, _, hR', _⟩ := hM'
  have hR'' : (∀ b, F1 b ↔ b = 1 ∨ b = 2) ∧ W'.heap[1]? = some o1 ∧ W'.heap[2]? = some o2 := hR'
  refine ⟨rfl, hfr.os, hfr.tape, hfr.output, hfr.size, fun k hk => ?_⟩
  by_cases k1 : k = 1
  · subst k1; rw [hR''.2.1, h1]
  · by_cases k2 : k = 2
    · subst k2; rw [hR''.2.2, h2]
    · exact hfr.keep k hk fun h => h.elim k1 k2

theorem errs_of_laid {W : World} (h : laidMetH Tryd.prog Rows.fnExactParsePuzzleRow.laid W) : ∃ o1 o2, W.heap[1]? = some o1 ∧ W.heap[2]? = some o2 ∧ errO o1 ∧ errO o2 := by
  rw [MakeChecks.laidMetH_plain _ _ _ (by kernel_rfl)] at h
  obtain ⟨ps, hl, _, _⟩ := h
  have hl' : DataW.LaidVars Tryd.prog W [("math/bits.deBruijn32tab", Rows.laid_math_bits_deBruijn32tab), ("math/bits.deBruijn64tab", Rows.laid_math_bits_deBruijn64tab), ("internal/strconv.uint64pow10", Rows.laid_internal_strconv_uint64pow10), ("unicode/utf8.acceptRanges", Rows.laid_unicode_utf8_acceptRanges), ("strconv.ErrRange", Rows.laid_strconv_ErrRange), ("strconv.ErrSyntax", Rows.laid_strconv_ErrSyntax), ("unicode/utf8.first", Rows.laid_unicode_utf8_first)] ps := hl
  obtain ⟨_, _, _, _, _, q1, _, _, _, _, hl1, _⟩ := hl'
  obtain ⟨_, _, _, _, _, q2, _, _, _, _, hl2, _⟩ := hl1
  obtain ⟨_, _, _, _, _, q3, _, _, _, _, hl3, _⟩ := hl2
  obtain ⟨_, _, _, _, _, q4, _, _, _, _, hl4, _⟩ := hl3
  obtain ⟨gr, tr, cr, fr, pr, q5, r1, r2, r3, r4, hl5, _⟩ := hl4
  obtain ⟨gs, ts, cs, fs, pss, q6, s1, s2, s3, s4, hl6, _⟩ := hl5
  have er : Tryd.prog.globalNamed "strconv.ErrRange" = some 2 := by kernel_rfl
  have es : Tryd.prog.globalNamed "strconv.ErrSyntax" = some 1 := by kernel_rfl
  obtain rfl : gr = 2 := Option.some.inj (r1.symm.trans er)
  obtain rfl : gs = 1 := Option.some.inj (s1.symm.trans es)
  have tyr : ((Tryd.prog.globals[2]?).map (·.type)) = some 62 := by kernel_rfl
  have tys : ((Tryd.prog.globals[1]?).map (·.type)) = some 62 := by kernel_rfl
  obtain rfl : tr = 62 := Option.some.inj (r2.symm.trans tyr)
  obtain rfl : ts = 62 := Option.some.inj (s2.symm.trans tys)
  obtain ⟨_, u1, v1, hc1, _⟩ := iface_of_trod Tryd.underlying62 r4
  obtain ⟨_, u2, v2, hc2, _⟩ := iface_of_trod Tryd.underlying62 s4
  obtain ⟨o2, ho2, he2⟩ := errObj r3 er hc1
  obtain ⟨o1, ho1, he1⟩ := errObj s3 es hc2
  exact ⟨o1, o2, ho1, ho2, he1, he2⟩
end Go.Proofs.YtaidpalamhmghaaDoor.X
