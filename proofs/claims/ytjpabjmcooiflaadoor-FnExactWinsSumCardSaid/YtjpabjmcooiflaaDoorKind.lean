/- Kinds of a word's moves. No condition beyond each statement's. -/
import Derived.Test.YtjpabjmcooiflaaDoorWord
namespace Go.Proofs.YtjpabjmcooiflaaDoor.X
open Go.Proofs
set_option maxRecDepth 100000
set_option linter.unusedVariables false
set_option linter.unusedSimpArgs false

theorem l1Most_spec (a b : Int) : Spec Tryd.prog 71 [i64 a, i64 b] [] (isRes [i64 (max a b)] []) := by
  refine Spec.of_wpx tt_ok Tryd.func71 (by kernel_rfl) rfl ?_
  (repeat' ((conv => whnf); first | refine CondVC.t ?_ | refine CondVC.f ?_ | refine CondVC.dec (fun h => ?_) (fun h => ?_) | refine CondVC.ndec (fun h => ?_) (fun h => ?_) | refine CondVC.mk (fun h => ?_) (fun h => ?_) | refine ArVC.i64 (by omega) ?_ | refine SideVC.mk (by first | omega | decide | (simp [slS]; done) | (simp [slS]; omega) | (simp only [byteE_len, mvE_len, strE_len, intE_len, esC_len, List.length_cons, List.length_nil, List.length_append, List.length_replicate, List.length_set, Int.toNat_natCast, and_true] at *; omega)) ?_ | refine LoopN.go ?_ | exact trivial | refine AltVC.mk ?_ ?_ | refine HeldVC.mk rfl ?_ | refine OpVC.more tt_ok ?_ | refine RestVC.ext tt_ok ?_)); all_goals (conv => whnf)
  · exact RetVC.res (by rw [Int.max_eq_left (by omega)]; rfl) rfl
  · exact RetVC.res (by rw [Int.max_eq_right (by omega)]; rfl) rfl
theorem l1Abs_spec (n : Int) (hn : -1000000000 ≤ n ∧ n ≤ 1000000000) : Spec Tryd.prog 45 [i64 n] [] (isRes [i64 (max n (-n))] []) := by
  refine Spec.of_wpx tt_ok Tryd.func45 (by kernel_rfl) rfl ?_
  (repeat' ((conv => whnf); first | refine CondVC.t ?_ | refine CondVC.f ?_ | refine CondVC.dec (fun h => ?_) (fun h => ?_) | refine CondVC.ndec (fun h => ?_) (fun h => ?_) | refine CondVC.mk (fun h => ?_) (fun h => ?_) | refine ArVC.i64 (by omega) ?_ | refine SideVC.mk (by first | omega | decide | (simp [slS]; done) | (simp [slS]; omega) | (simp only [byteE_len, mvE_len, strE_len, intE_len, esC_len, List.length_cons, List.length_nil, List.length_append, List.length_replicate, List.length_set, Int.toNat_natCast, and_true] at *; omega)) ?_ | refine LoopN.go ?_ | exact trivial | refine AltVC.mk ?_ ?_ | refine HeldVC.mk rfl ?_ | refine CallVC.pure (l1Most_spec _ _) rfl ?_ | refine OpVC.more tt_ok ?_ | refine RestVC.ext tt_ok ?_)); all_goals (conv => whnf)
  all_goals exact RetVC.res rfl rfl

/-- A move within bounds, by one or by two. -/
def stepOk (m : Mv) : Prop := (0 ≤ m.1 ∧ m.1 ≤ 1000000) ∧ (0 ≤ m.2 ∧ m.2 ≤ 1000000) ∧ (m.2 - m.1 = 1 ∨ m.1 - m.2 = 1 ∨ m.2 - m.1 = 2 ∨ m.1 - m.2 = 2)
theorem movesF_step {w kinds : Tx} {m : Mv} (hw : w.length ≤ 1000000) (h : m ∈ movesF w kinds) : stepOk m := by
  obtain ⟨i, hi, e, hg, _⟩ := movesF_mem h
  obtain ⟨h1, h2, h3, h4, h5⟩ := goalF_spec hg
  have hs := stepF_cases (w.getD i 0)
  unfold stepOk
  rw [e]
  refine ⟨by omega, by omega, ?_⟩
  rcases hs with hs | hs | hs
  · exact absurd hs h4
  · rw [hs] at h5; omega
  · rw [hs] at h5; omega
theorem playF_step (s : Tx) : ∀ (w : Tx) (l : List Mv), w.length ≤ 1000000 → (∀ m ∈ l, stepOk m) → ∀ m ∈ (playF s w l).1, stepOk m := by
  induction s with
  | nil => intro w l hw hl m hm; exact hl m hm
  | cons c s ih =>
    intro w l hw hl m hm
    unfold playF at hm
    split at hm
    · exact hl m hm
    · rename_i m0 ms he
      refine ih (madeF w m0) (l ++ [m0]) (by rw [madeF_len]; exact hw) ?_ m hm
      intro x hx
      rcases List.mem_append.1 hx with hx | hx
      · exact hl x hx
      · simp only [List.mem_singleton] at hx
        subst hx
        exact movesF_step hw (kinds := [c]) (by rw [he]; exact List.mem_cons_self)

def jumpF (m : Mv) : Bool := !decide (m.2 - m.1 = 1) && !decide (m.1 - m.2 = 1)
def kindOfF (m : Mv) : UInt8 := if jumpF m then 106 else 115
theorem isJump_spec (m : Mv) (h : stepOk m) : Spec Tryd.prog 47 [.agg (mvC m)] [] (isRes [vb (jumpF m)] []) := by
  obtain ⟨a, b⟩ := m
  obtain ⟨h1, h2, h3⟩ := h
  simp only at h1 h2 h3
  refine Spec.of_wpx tt_ok Tryd.func47 (by kernel_rfl) rfl ?_
  (repeat' ((conv => whnf); first | refine CondVC.t ?_ | refine CondVC.f ?_ | refine CondVC.dec (fun h => ?_) (fun h => ?_) | refine CondVC.ndec (fun h => ?_) (fun h => ?_) | refine CondVC.mk (fun h => ?_) (fun h => ?_) | refine ArVC.i64 (by omega) ?_ | refine SideVC.mk (by first | omega | decide | (simp [slS]; done) | (simp [slS]; omega) | (simp only [byteE_len, mvE_len, strE_len, intE_len, esC_len, List.length_cons, List.length_nil, List.length_append, List.length_replicate, List.length_set, Int.toNat_natCast, and_true] at *; omega)) ?_ | refine LoopN.go ?_ | exact trivial | refine AltVC.mk ?_ ?_ | refine HeldVC.mk rfl ?_ | refine OpVC.more tt_ok ?_ | refine RestVC.ext tt_ok ?_)); all_goals (conv => whnf)
  all_goals exact RetVC.res (by simp [vb, jumpF, *]) rfl

theorem implKindsOfWord_spec (w s : Tx) (hw : w.length ≤ 1048576) (hs : s.length ≤ 1048576) : Spec Tryd.prog 15 [.c (.str w), .c (.str s)] [] (isRes [.c (.str ((movesWordF w s).map kindOfF)), vb (allOfF w s)] []) := by
  have h1 := implMovesOfWord_spec w s hw hs
  have hl := movesWordF_len w s
  have hstep : ∀ m ∈ movesWordF w s, stepOk m := by
    unfold movesWordF
    by_cases ha : allOfF w s = true
    · rw [if_pos ha]
      simp only [allOfF, Bool.and_eq_true] at ha
      exact playF_step s w [] (by have := line_len (asked_and ha.1).1; omega) (by simp)
    · rw [if_neg ha]; simp
  generalize movesWordF w s = l at *
  generalize allOfF w s = b at *
  refine Spec.of_wpx tt_ok Tryd.func15 (by kernel_rfl) rfl ?_
  (repeat' ((conv => whnf); first | refine CondVC.t ?_ | refine CondVC.f ?_ | refine CondVC.dec (fun h => ?_) (fun h => ?_) | refine CondVC.ndec (fun h => ?_) (fun h => ?_) | refine CondVC.mk (fun h => ?_) (fun h => ?_) | refine ArVC.i64 (by omega) ?_ | refine SideVC.mk (by first | omega | decide | (simp [slS]; done) | (simp [slS]; omega) | (simp only [byteE_len, mvE_len, strE_len, intE_len, esC_len, List.length_cons, List.length_nil, List.length_append, List.length_replicate, List.length_set, Int.toNat_natCast, and_true] at *; omega)) ?_ | refine LoopN.go ?_ | exact trivial | refine AltVC.mk ?_ ?_ | refine HeldVC.mk rfl ?_ | refine CallVC.res [] rfl h1 rfl ?_ | refine OpVC.more tt_ok ?_ | refine RestVC.ext tt_ok ?_)); all_goals (conv => whnf)
  have hml := mvE_len l
  refine LoopVC.mk (G := Nat) (fun k => ⟨[(19, .v (i64 k)), (18, .v (i64 l.length)), (17, .v (.c (.sl 1001))), (8, .v (.c (.str ((l.take k).map kindOfF)))), (7, .v (vb b))], [(1001, .sl 47 2 (mvE l))]⟩)
    (fun k => k ≤ l.length) (fun k => l.length - k) 0 (by omega) (Sub.mk [] _ ⟨rfl, by rw [hml]; rfl, rfl, rfl, rfl, trivial⟩ rfl rfl) ?_
  intro k hk
  by_cases hlt : k < l.length
  · have g1 : (mvE l)[(k : Int).toNat]? = some (mvC l[k]) := by rw [Int.toNat_natCast]; exact mvE_get hlt
    have hj := isJump_spec l[k] (hstep _ (List.getElem_mem hlt))
    have hfin : (l.take (k + 1)).map kindOfF = (l.take k).map kindOfF ++ [kindOfF l[k]] := by rw [List.take_succ_eq_append_getElem hlt, List.map_append]; rfl
    unfold kindOfF at hfin
    generalize jumpF l[k] = j at *
    cases j
    all_goals
      (repeat' ((conv => whnf); first | refine CondVC.t ?_ | refine CondVC.f ?_ | refine CondVC.dec (fun h => ?_) (fun h => ?_) | refine CondVC.ndec (fun h => ?_) (fun h => ?_) | refine CondVC.mk (fun h => ?_) (fun h => ?_) | refine ArVC.i64 (by omega) ?_ | refine SideVC.mk (by first | omega | decide | (simp [slS]; done) | (simp [slS]; omega) | (simp only [byteE_len, mvE_len, strE_len, intE_len, esC_len, List.length_cons, List.length_nil, List.length_append, List.length_replicate, List.length_set, Int.toNat_natCast, and_true] at *; omega)) ?_ | refine LoopN.go ?_ | exact trivial | refine AltVC.mk ?_ ?_ | refine HeldVC.mk rfl ?_ | refine LoadVC.mk _ g1 ?_ | refine CallVC.pure hj rfl ?_ | refine SideVC.mk (by rw [hml]; omega) ?_ | refine OpVC.more tt_ok ?_ | refine RestVC.ext tt_ok ?_)); all_goals (conv => whnf)
      all_goals first
        | (exfalso; omega)
        | exact ⟨k + 1, by omega, by omega, Sub.mk [] _ ⟨rfl, rfl, rfl, congrArg (fun z => some (E.v (.c (.str z)))) hfin.symm, rfl, trivial⟩ rfl rfl⟩
  · (repeat' ((conv => whnf); first | refine CondVC.t ?_ | refine CondVC.f ?_ | refine CondVC.dec (fun h => ?_) (fun h => ?_) | refine CondVC.ndec (fun h => ?_) (fun h => ?_) | refine CondVC.mk (fun h => ?_) (fun h => ?_) | refine ArVC.i64 (by omega) ?_ | refine SideVC.mk (by first | omega | decide | (simp [slS]; done) | (simp [slS]; omega) | (simp only [byteE_len, mvE_len, strE_len, intE_len, esC_len, List.length_cons, List.length_nil, List.length_append, List.length_replicate, List.length_set, Int.toNat_natCast, and_true] at *; omega)) ?_ | refine LoopN.go ?_ | exact trivial | refine AltVC.mk ?_ ?_ | refine HeldVC.mk rfl ?_ | refine OpVC.more tt_ok ?_ | refine RestVC.ext tt_ok ?_)); all_goals (conv => whnf)
    all_goals first
      | (exfalso; omega)
      | exact RetVC.res (by rw [List.take_of_length_le (by omega)]; rfl) rfl

def kindsWordF (w s : Tx) : Tx := (movesWordF w s).map kindOfF
theorem specKindsOfWord_spec (w s : Tx) (hw : w.length ≤ 1048576) (hs : s.length ≤ 1048576) : Spec Tryd.prog 14 [.c (.str w), .c (.str s)] [] (isRes [.c (.str ((movesWordF w s).map kindOfF)), vb (allOfF w s)] []) := by
  unfold movesWordF allOfF playAllF
  have h1 := woAsked_spec w s hw hs
  refine Spec.of_wpx tt_ok Tryd.func14 (by kernel_rfl) rfl ?_
  cases ha : askedF w s with
  | true =>
    rw [ha] at h1
    have hb := asked_and ha
    have h2 := woPlay_spec w s (line_ok hb.1) (by have := line_len hb.1; omega) (word_ok hb.2) (by have := word_len hb.2; omega)
    have hlen := playOf_len w s ha
    have hstep := playF_step s w [] (by have := line_len hb.1; omega) (by simp)
    generalize playF s w [] = Q at *
    obtain ⟨l, v⟩ := Q
    simp only at hlen hstep
    have hml := mvE_len l
    by_cases hq : l.length = s.length
    · rw [decide_eq_true (p := (l, v).1.length = s.length) hq, Bool.true_and, if_pos rfl]
      (repeat' ((conv => whnf); first | refine CondVC.t ?_ | refine CondVC.f ?_ | refine CondVC.dec (fun h => ?_) (fun h => ?_) | refine CondVC.ndec (fun h => ?_) (fun h => ?_) | refine CondVC.mk (fun h => ?_) (fun h => ?_) | refine ArVC.i64 (by omega) ?_ | refine SideVC.mk (by first | omega | decide | (simp [slS]; done) | (simp [slS]; omega) | (simp only [byteE_len, mvE_len, strE_len, intE_len, esC_len, List.length_cons, List.length_nil, List.length_append, List.length_replicate, List.length_set, Int.toNat_natCast, and_true] at *; omega)) ?_ | refine LoopN.go ?_ | exact trivial | refine AltVC.mk ?_ ?_ | refine HeldVC.mk rfl ?_ | refine CallVC.pure h1 rfl ?_ | refine CallVC.res [] rfl h2 rfl ?_ | refine OpVC.more tt_ok ?_ | refine RestVC.ext tt_ok ?_)); all_goals (conv => whnf)
      · exfalso; simp only [mvE_len] at *; omega
      refine LoopVC.mk (G := Nat) (fun k => ⟨[(28, .v (i64 k)), (27, .v (i64 l.length)), (26, .v (.c (.sl 1001))), (8, .v (.c (.str ((l.take k).map kindOfF))))], [(1001, .sl 47 2 (mvE l))]⟩)
        (fun k => k ≤ l.length) (fun k => l.length - k) 0 (by omega) (Sub.mk [] _ ⟨rfl, by rw [hml]; rfl, rfl, rfl, trivial⟩ rfl rfl) ?_
      intro k hk
      by_cases hlt : k < l.length
      · have g1 : (mvE l)[(k : Int).toNat]? = some (mvC l[k]) := by rw [Int.toNat_natCast]; exact mvE_get hlt
        obtain ⟨b1, b2, b3⟩ := hstep _ (List.getElem_mem hlt)
        have hj := l1Abs_spec (l[k].2 - l[k].1) (by omega)
        have hfin : (l.take (k + 1)).map kindOfF = (l.take k).map kindOfF ++ [kindOfF l[k]] := by rw [List.take_succ_eq_append_getElem hlt, List.map_append]; rfl
        by_cases ht : max (l[k].2 - l[k].1) (-(l[k].2 - l[k].1)) = 2
        · have ek : kindOfF l[k] = 106 := by
            unfold kindOfF jumpF
            rw [decide_eq_false (by omega), decide_eq_false (by omega)]; rfl
          rw [ek] at hfin
          (repeat' ((conv => whnf); first | refine CondVC.t ?_ | refine CondVC.f ?_ | refine CondVC.dec (fun h => ?_) (fun h => ?_) | refine CondVC.ndec (fun h => ?_) (fun h => ?_) | refine CondVC.mk (fun h => ?_) (fun h => ?_) | refine ArVC.i64 (by omega) ?_ | refine SideVC.mk (by first | omega | decide | (simp [slS]; done) | (simp [slS]; omega) | (simp only [byteE_len, mvE_len, strE_len, intE_len, esC_len, List.length_cons, List.length_nil, List.length_append, List.length_replicate, List.length_set, Int.toNat_natCast, and_true] at *; omega)) ?_ | refine LoopN.go ?_ | exact trivial | refine AltVC.mk ?_ ?_ | refine HeldVC.mk rfl ?_ | refine LoadVC.mk _ g1 ?_ | refine CallVC.pure hj rfl ?_ | refine SideVC.mk (by rw [hml]; omega) ?_ | refine OpVC.more tt_ok ?_ | refine RestVC.ext tt_ok ?_)); all_goals (conv => whnf)
          all_goals first
            | (exfalso; omega)
            | exact ⟨k + 1, by omega, by omega, Sub.mk [] _ ⟨rfl, rfl, rfl, congrArg (fun z => some (E.v (.c (.str z)))) hfin.symm, trivial⟩ rfl rfl⟩
        · have ek : kindOfF l[k] = 115 := by
            unfold kindOfF jumpF
            rcases (show l[k].2 - l[k].1 = 1 ∨ l[k].1 - l[k].2 = 1 by omega) with h | h
            · rw [decide_eq_true h]; rfl
            · rw [decide_eq_true h]; simp
          rw [ek] at hfin
          (repeat' ((conv => whnf); first | refine CondVC.t ?_ | refine CondVC.f ?_ | refine CondVC.dec (fun h => ?_) (fun h => ?_) | refine CondVC.ndec (fun h => ?_) (fun h => ?_) | refine CondVC.mk (fun h => ?_) (fun h => ?_) | refine ArVC.i64 (by omega) ?_ | refine SideVC.mk (by first | omega | decide | (simp [slS]; done) | (simp [slS]; omega) | (simp only [byteE_len, mvE_len, strE_len, intE_len, esC_len, List.length_cons, List.length_nil, List.length_append, List.length_replicate, List.length_set, Int.toNat_natCast, and_true] at *; omega)) ?_ | refine LoopN.go ?_ | exact trivial | refine AltVC.mk ?_ ?_ | refine HeldVC.mk rfl ?_ | refine LoadVC.mk _ g1 ?_ | refine CallVC.pure hj rfl ?_ | refine SideVC.mk (by rw [hml]; omega) ?_ | refine OpVC.more tt_ok ?_ | refine RestVC.ext tt_ok ?_)); all_goals (conv => whnf)
          all_goals first
            | (exfalso; omega)
            | exact ⟨k + 1, by omega, by omega, Sub.mk [] _ ⟨rfl, rfl, rfl, congrArg (fun z => some (E.v (.c (.str z)))) hfin.symm, trivial⟩ rfl rfl⟩
      · (repeat' ((conv => whnf); first | refine CondVC.t ?_ | refine CondVC.f ?_ | refine CondVC.dec (fun h => ?_) (fun h => ?_) | refine CondVC.ndec (fun h => ?_) (fun h => ?_) | refine CondVC.mk (fun h => ?_) (fun h => ?_) | refine ArVC.i64 (by omega) ?_ | refine SideVC.mk (by first | omega | decide | (simp [slS]; done) | (simp [slS]; omega) | (simp only [byteE_len, mvE_len, strE_len, intE_len, esC_len, List.length_cons, List.length_nil, List.length_append, List.length_replicate, List.length_set, Int.toNat_natCast, and_true] at *; omega)) ?_ | refine LoopN.go ?_ | exact trivial | refine AltVC.mk ?_ ?_ | refine HeldVC.mk rfl ?_ | refine OpVC.more tt_ok ?_ | refine RestVC.ext tt_ok ?_)); all_goals (conv => whnf)
        all_goals first
          | (exfalso; omega)
          | exact RetVC.res (by rw [List.take_of_length_le (by omega)]; rfl) rfl
    · rw [decide_eq_false (p := (l, v).1.length = s.length) hq, Bool.true_and, if_neg Bool.false_ne_true]
      (repeat' ((conv => whnf); first | refine CondVC.t ?_ | refine CondVC.f ?_ | refine CondVC.dec (fun h => ?_) (fun h => ?_) | refine CondVC.ndec (fun h => ?_) (fun h => ?_) | refine CondVC.mk (fun h => ?_) (fun h => ?_) | refine ArVC.i64 (by omega) ?_ | refine SideVC.mk (by first | omega | decide | (simp [slS]; done) | (simp [slS]; omega) | (simp only [byteE_len, mvE_len, strE_len, intE_len, esC_len, List.length_cons, List.length_nil, List.length_append, List.length_replicate, List.length_set, Int.toNat_natCast, and_true] at *; omega)) ?_ | refine LoopN.go ?_ | exact trivial | refine AltVC.mk ?_ ?_ | refine HeldVC.mk rfl ?_ | refine CallVC.pure h1 rfl ?_ | refine CallVC.res [] rfl h2 rfl ?_ | refine OpVC.more tt_ok ?_ | refine RestVC.ext tt_ok ?_)); all_goals (conv => whnf)
      · exact RetVC.res rfl rfl
      · exfalso; simp only [mvE_len] at *; omega
  | false =>
    rw [ha] at h1
    (repeat' ((conv => whnf); first | refine CondVC.t ?_ | refine CondVC.f ?_ | refine CondVC.dec (fun h => ?_) (fun h => ?_) | refine CondVC.ndec (fun h => ?_) (fun h => ?_) | refine CondVC.mk (fun h => ?_) (fun h => ?_) | refine ArVC.i64 (by omega) ?_ | refine SideVC.mk (by first | omega | decide | (simp [slS]; done) | (simp [slS]; omega) | (simp only [byteE_len, mvE_len, strE_len, intE_len, esC_len, List.length_cons, List.length_nil, List.length_append, List.length_replicate, List.length_set, Int.toNat_natCast, and_true] at *; omega)) ?_ | refine LoopN.go ?_ | exact trivial | refine AltVC.mk ?_ ?_ | refine HeldVC.mk rfl ?_ | refine CallVC.pure h1 rfl ?_ | refine OpVC.more tt_ok ?_ | refine RestVC.ext tt_ok ?_)); all_goals (conv => whnf)
    all_goals exact RetVC.res rfl rfl
theorem lawKindsOfWord_spec (w : Tx) (hw : w.length ≤ 9223372036854775807) (s : Tx) (hs : s.length ≤ 9223372036854775807) : Spec Tryd.prog 3 [.c (.str w), .c (.str s)] [] (isRes [vb true] []) := by
  refine Spec.of_wpx tt_ok Tryd.func3 (by kernel_rfl) rfl ?_
  (repeat' ((conv => whnf); first | refine CondVC.t ?_ | refine CondVC.f ?_ | refine CondVC.dec (fun h => ?_) (fun h => ?_) | refine CondVC.ndec (fun h => ?_) (fun h => ?_) | refine CondVC.mk (fun h => ?_) (fun h => ?_) | refine ArVC.i64 (by omega) ?_ | refine SideVC.mk (by first | omega | decide | (simp [slS]; done) | (simp [slS]; omega) | (simp only [byteE_len, mvE_len, strE_len, intE_len, esC_len, List.length_cons, List.length_nil, List.length_append, List.length_replicate, List.length_set, Int.toNat_natCast, and_true] at *; omega)) ?_ | refine LoopN.go ?_ | exact trivial | refine AltVC.mk ?_ ?_ | refine HeldVC.mk rfl ?_ | refine CallVC.pure (specKindsOfWord_spec w s (by omega) (by omega)) rfl ?_ | refine CallVC.pure (implKindsOfWord_spec w s (by omega) (by omega)) rfl ?_ | refine OpVC.more tt_ok ?_ | refine RestVC.ext tt_ok ?_)); all_goals (conv => whnf)
  all_goals first | exact RetVC.res rfl rfl | (exfalso; simp_all; done)
end Go.Proofs.YtjpabjmcooiflaaDoor.X
