/- Kinds of a word's moves. No condition beyond each statement's. -/
import Derived.Test.YtaidpalamhmghaaDoorWord
namespace Go.Proofs.YtaidpalamhmghaaDoor.X
open Go.Proofs
set_option maxRecDepth 100000
set_option linter.unusedVariables false
set_option linter.unusedSimpArgs false

theorem l1Most_spec (a b : Int) : Spec Tryd.prog 134 [i64 a, i64 b] [] (isRes [i64 (max a b)] []) := by
  refine Spec.of_wpx tt_ok Tryd.func134 (by kernel_rfl) rfl ?_
  (repeat' ((conv => whnf); first | refine CondVC.t ?_ | refine CondVC.f ?_ | refine CondVC.dec (fun h => ?_) (fun h => ?_) | refine CondVC.ndec (fun h => ?_) (fun h => ?_) | refine CondVC.mk (fun h => ?_) (fun h => ?_) | refine ArVC.i64 (by first | omega | (simp only; omega)) ?_ | refine SideVC.mk (by first | omega | decide | (simp only; omega) | (simp [slS]; done) | (simp [slS]; omega) | (simp only [byteE_len, mvE_len, strE_len, intE_len, esC_len, List.length_cons, List.length_nil, List.length_append, List.length_replicate, List.length_set, Int.toNat_natCast, and_true] at *; omega)) ?_ | refine LoopN.go ?_ | exact trivial | refine AltVC.mk ?_ ?_ | refine HeldVC.mk rfl ?_ | refine OpVC.more tt_ok ?_ | refine RestVC.ext tt_ok ?_)); all_goals (conv => whnf)
  · exact RetVC.res (by rw [Int.max_eq_left (by omega)]; rfl) rfl
  · exact RetVC.res (by rw [Int.max_eq_right (by omega)]; rfl) rfl
theorem l1Abs_spec (n : Int) (hn : -1000000000 ≤ n ∧ n ≤ 1000000000) : Spec Tryd.prog 99 [i64 n] [] (isRes [i64 (max n (-n))] []) := by
  refine Spec.of_wpx tt_ok Tryd.func99 (by kernel_rfl) rfl ?_
  (repeat' ((conv => whnf); first | refine CondVC.t ?_ | refine CondVC.f ?_ | refine CondVC.dec (fun h => ?_) (fun h => ?_) | refine CondVC.ndec (fun h => ?_) (fun h => ?_) | refine CondVC.mk (fun h => ?_) (fun h => ?_) | refine ArVC.i64 (by first | omega | (simp only; omega)) ?_ | refine SideVC.mk (by first | omega | decide | (simp only; omega) | (simp [slS]; done) | (simp [slS]; omega) | (simp only [byteE_len, mvE_len, strE_len, intE_len, esC_len, List.length_cons, List.length_nil, List.length_append, List.length_replicate, List.length_set, Int.toNat_natCast, and_true] at *; omega)) ?_ | refine LoopN.go ?_ | exact trivial | refine AltVC.mk ?_ ?_ | refine HeldVC.mk rfl ?_ | refine CallVC.pure (l1Most_spec _ _) rfl ?_ | refine OpVC.more tt_ok ?_ | refine RestVC.ext tt_ok ?_)); all_goals (conv => whnf)
  all_goals exact RetVC.res rfl rfl

/-- A move within bounds, by one or by two. -/
def stepOk (m : Mv) : Prop := (0 ≤ m.1 ∧ m.1 ≤ 1000000) ∧ (0 ≤ m.2 ∧ m.2 ≤ 1000000) ∧ (m.2 - m.1 = 1 ∨ m.1 - m.2 = 1 ∨ m.2 - m.1 = 2 ∨ m.1 - m.2 = 2)
theorem movesF_step {w kinds : Tx} {m : Mv} (hw : w.length ≤ 1000000) (h : m ∈ movesF w kinds) : stepOk m := by
  obtain ⟨i, hi, e, hg, _⟩ := movesF_mem h
  obtain ⟨h1, h2, h3, h4, h5⟩ := goalF_spec hg
  have hs := stepF_cases (w.getD i 0)
  unfold stepOk
  rw [e]
  refine ⟨by omega, by omega, ?_⟩
  rcases hs with hs | hs | hs
  · exact absurd hs h4
  · rw [hs] at h5; omega
  · rw [hs] at h5; omega
theorem playF_step (s : Tx) : ∀ (w : Tx) (l : List Mv), w.length ≤ 1000000 → (∀ m ∈ l, stepOk m) → ∀ m ∈ (playF s w l).1, stepOk m := by
  induction s with
  | nil => intro w l hw hl m hm; exact hl m hm
  | cons c s ih =>
    intro w l hw hl m hm
    unfold playF at hm
    split at hm
    · exact hl m hm
    · rename_i m0 ms he
      refine ih (madeF w m0) (l ++ [m0]) (by rw [madeF_len]; exact hw) ?_ m hm
      intro x hx
      rcases List.mem_append.1 hx with hx | hx
      · exact hl x hx
      · simp only [List.mem_singleton] at hx
        subst hx
        exact movesF_step hw (kinds := [c]) (by rw [he]; exact List.mem_cons_self)

def jumpF (m : Mv) : Bool := !decide (m.2 - m.1 = 1) && !decide (m.1 - m.2 = 1)
def kindOfF (m : Mv) : UInt8 := if jumpF m then 106 else 115


def kindsWordF (w s : Tx) : Tx := (movesWordF w s).map kindOfF
end Go.Proofs.YtaidpalamhmghaaDoor.X
