/- Moves by rules: the program's list, and what is asked of it. No condition beyond each statement's. -/
import Derived.Test.YtaidpalamhmghaaDoorRuW
namespace Go.Proofs.YtaidpalamhmghaaDoor.X
open Go.Proofs
set_option maxRecDepth 100000
set_option linter.unusedVariables false
set_option linter.unusedSimpArgs false
/-! ### The program's list -/
def byTo (w : Tx) (o bk l : Bool) (k : Nat) : List Mv := (List.range k).flatMap fun (i : Nat) => goB w o bk l (i : Int) (-1) ++ goB w o bk l (i : Int) 1
theorem byTo_succ (w : Tx) (o bk l : Bool) (k : Nat) : byTo w o bk l (k + 1) = byTo w o bk l k ++ (goB w o bk l (k : Int) (-1) ++ goB w o bk l (k : Int) 1) := by
  unfold byTo; rw [List.range_succ, List.flatMap_append]; simp
theorem goB_le (w : Tx) (o bk l : Bool) (i d : Int) : (goB w o bk l i d).length ≤ 1 := by
  rcases goB_one (w := w) (o := o) (bk := bk) (l := l) (i := i) (d := d) with e | ⟨m, e⟩ <;> rw [e] <;> simp
theorem byTo_len (w : Tx) (o bk l : Bool) : ∀ k, (byTo w o bk l k).length ≤ 2 * k
  | 0 => by simp [byTo]
  | k + 1 => by
    have h1 := byTo_len w o bk l k
    have h2 := goB_le w o bk l k (-1)
    have h3 := goB_le w o bk l k 1
    rw [byTo_succ]; simp only [List.length_append]; omega
/-- What it comes to at a cell, in the direction number j. -/
def dirJ (j : Nat) : Int := if j = 0 then -1 else 1
def partJ (w : Tx) (o bk l : Bool) (i : Int) (j : Nat) : List Mv := if j = 0 then [] else if j = 1 then goB w o bk l i (-1) else goB w o bk l i (-1) ++ goB w o bk l i 1
theorem partJ_succ (w : Tx) (o bk l : Bool) (i : Int) {j : Nat} (h : j < 2) : partJ w o bk l i (j + 1) = partJ w o bk l i j ++ goB w o bk l i (dirJ j) := by
  have : j = 0 ∨ j = 1 := by omega
  rcases this with rfl | rfl <;> simp [partJ, dirJ]
theorem partJ_len (w : Tx) (o bk l : Bool) (i : Int) (j : Nat) : (partJ w o bk l i j).length ≤ 2 := by
  have h2 := goB_le w o bk l i (-1)
  have h3 := goB_le w o bk l i 1
  unfold partJ
  split
  · simp
  · split
    · omega
    · simp only [List.length_append]; omega
theorem goB_eq {w : Tx} {o bk l : Bool} {i : Nat} {d : Int} (hi : i < w.length) : goB w o bk l i d = if stepF (w.getD i 0) = 0 ∨ (¬ stepF (w.getD i 0) = d ∧ bk = false) then [] else if gbOk w o l i d then [((i : Int), (i : Int) + ((stK w o i d : Nat) + 1) * d)] else [] := by
  unfold goB gbOk
  rw [← getD_atF hi]
  simp only [Bool.and_eq_true, Bool.or_eq_true, decide_eq_true_eq]
set_option maxHeartbeats 4000000 in
theorem movesBy_spec (w : Tx) (o bk l : Bool) (hw : w.length ≤ 1000) : Spec Tryd.prog 64 [.c (.str w), ruleV o bk l] [] (isRes [.c (.sl 1001)] [(1001, .sl 33 2 (mvE (byL w o bk l)))]) := by
  refine Spec.of_wpx tt_ok Tryd.func64 (by kernel_rfl) rfl ?_
  (repeat' ((conv => whnf); first | refine CondVC.t ?_ | refine CondVC.f ?_ | refine CondVC.dec (fun h => ?_) (fun h => ?_) | refine CondVC.ndec (fun h => ?_) (fun h => ?_) | refine CondVC.mk (fun h => ?_) (fun h => ?_) | refine ArVC.i64 (by first | omega | (simp only; omega)) ?_ | refine SideVC.mk (by first | omega | decide | (simp only; omega) | (simp [slS]; done) | (simp [slS]; omega) | (simp only [byteE_len, mvE_len, strE_len, intE_len, esC_len, List.length_cons, List.length_nil, List.length_append, List.length_replicate, List.length_set, Int.toNat_natCast, and_true] at *; omega)) ?_ | refine LoopN.go ?_ | exact trivial | refine AltVC.mk ?_ ?_ | refine HeldVC.mk rfl ?_ | refine OpVC.more tt_ok ?_ | refine RestVC.ext tt_ok ?_)); all_goals (conv => whnf)
  refine LoopVC.mk (G := Nat) (fun k => ⟨[(15, .v (i64 k)), (14, .v (i64 w.length)), (5, .v (.c (.sl 1001))), (3, .v (.c (.ptr 3 0))), (0, .v (.c (.str w)))], [(3, .box 31 [.bool o, .bool bk, .bool l]), (1001, .sl 33 2 (mvE (byTo w o bk l k)))]⟩)
    (fun k => k ≤ w.length) (fun k => w.length - k) 0 (by omega) (Sub.mk [(1001, 12)] [] ⟨rfl, rfl, rfl, rfl, rfl, trivial⟩ rfl rfl) ?_
  intro k hk
  have hl := byTo_len w o bk l k
  have hs := byTo_succ w o bk l k
  by_cases hlt : k < w.length
  · (repeat' ((conv => whnf); first | refine CondVC.t ?_ | refine CondVC.f ?_ | refine CondVC.dec (fun h => ?_) (fun h => ?_) | refine CondVC.ndec (fun h => ?_) (fun h => ?_) | refine CondVC.mk (fun h => ?_) (fun h => ?_) | refine ArVC.i64 (by first | omega | (simp only; omega)) ?_ | refine SideVC.mk (by first | omega | decide | (simp only; omega) | (simp [slS]; done) | (simp [slS]; omega) | (simp only [byteE_len, mvE_len, strE_len, intE_len, esC_len, List.length_cons, List.length_nil, List.length_append, List.length_replicate, List.length_set, Int.toNat_natCast, and_true] at *; omega)) ?_ | refine LoopN.go ?_ | exact trivial | refine AltVC.mk ?_ ?_ | refine HeldVC.mk rfl ?_ | refine OpVC.more tt_ok ?_ | refine RestVC.ext tt_ok ?_)); all_goals (conv => whnf)
    all_goals try (exfalso; omega)
    refine LoopVC.mk (G := Nat) (fun j => ⟨[(20, .v (i64 j)), (19, .v (i64 2)), (18, .v (.c (.sl 18))), (6, .v (i64 k)), (15, .v (i64 k)), (14, .v (i64 w.length)), (5, .v (.c (.sl 1001))), (3, .v (.c (.ptr 3 0))), (0, .v (.c (.str w)))],
        [(18, .sl 3 1 (intE [-1, 1])), (3, .box 31 [.bool o, .bool bk, .bool l]), (1001, .sl 33 2 (mvE (byTo w o bk l k ++ partJ w o bk l k j)))]⟩)
      (fun j => j ≤ 2) (fun j => 2 - j) 0 (by omega) (Sub.mk [] [] ⟨rfl, rfl, rfl, rfl, rfl, rfl, rfl, rfl, rfl, trivial⟩ (by rw [show byTo w o bk l k ++ partJ w o bk l k 0 = byTo w o bk l k by simp [partJ]]; rfl) rfl) ?_
    intro j hj
    have hpl := partJ_len w o bk l k j
    by_cases hj2 : j < 2
    · have hps := partJ_succ w o bk l k hj2
      rw [goB_eq hlt] at hps
      have hd : dirJ j = 1 ∨ dirJ j = -1 := by unfold dirJ; split <;> simp
      have g1 : (intE [-1, 1])[(j : Int).toNat]? = some [.int .i64 (dirJ j)] := by
        rw [Int.toNat_natCast]
        have : j = 0 ∨ j = 1 := by omega
        rcases this with rfl | rfl <;> rfl
      have h1 := stepOf_spec (w.getD k 0)
      have hgi : w.getD (k : Int).toNat 0 = w.getD k 0 := by rw [Int.toNat_natCast]
      rw [← hgi] at h1
      by_cases hst : stepF (w.getD k 0) = 0 ∨ (¬ stepF (w.getD k 0) = dirJ j ∧ bk = false)
      · rw [if_pos hst, List.append_nil] at hps
        rw [hgi] at h1
        generalize dirJ j = d at *
        generalize stepF (w.getD k 0) = s at *
        (repeat' ((conv => whnf); first | refine CondVC.t ?_ | refine CondVC.f ?_ | refine CondVC.dec (fun h => ?_) (fun h => ?_) | refine CondVC.ndec (fun h => ?_) (fun h => ?_) | refine CondVC.mk (fun h => ?_) (fun h => ?_) | refine ArVC.i64 (by first | omega | (simp only; omega)) ?_ | refine SideVC.mk (by first | omega | decide | (simp only; omega) | (simp [slS]; done) | (simp [slS]; omega) | (simp only [byteE_len, mvE_len, strE_len, intE_len, esC_len, List.length_cons, List.length_nil, List.length_append, List.length_replicate, List.length_set, Int.toNat_natCast, and_true] at *; omega)) ?_ | refine LoopN.go ?_ | exact trivial | refine AltVC.mk ?_ ?_ | refine HeldVC.mk rfl ?_ | refine LoadVC.mk _ g1 ?_ | refine CallVC.pure h1 rfl ?_ | refine OpVC.more tt_ok ?_ | refine RestVC.ext tt_ok ?_)); all_goals (conv => whnf)
        all_goals first
          | (exfalso; omega)
          | exact ⟨j + 1, by omega, by omega, Sub.mk [] _ ⟨rfl, rfl, rfl, rfl, rfl, rfl, rfl, rfl, rfl, trivial⟩ (by rw [hps]; rfl) rfl⟩
          | (exfalso; simp_all; done)
      · rw [if_neg hst] at hps
        have h2 := goalBy_spec w k (dirJ j) o bk l hlt (fun e => hst (.inl e)) hd hw
        have hst2 : stepF (w.getD k 0) = dirJ j ∨ bk = true := by
          cases bk with
          | true => exact .inr rfl
          | false => exact .inl (Classical.byContradiction fun hn => hst (.inr ⟨hn, rfl⟩))
        rw [hgi] at h1
        generalize stK w o (k : Int) (dirJ j) = K at *
        generalize dirJ j = d at *
        generalize stepF (w.getD k 0) = s at *
        cases hg : gbOk w o l k d with
        | true =>
          rw [hg, if_pos rfl] at hps
          rw [hg] at h2
          have he : mvE (byTo w o bk l k ++ partJ w o bk l k (j + 1)) = mvE (byTo w o bk l k ++ partJ w o bk l k j) ++ [[.int .i64 (k : Int), .int .i64 ((k : Int) + ((K : Int) + 1) * d)]] := by
            rw [hps, ← List.append_assoc, mvE_append]; rfl
          (repeat' ((conv => whnf); first | refine CondVC.t ?_ | refine CondVC.f ?_ | refine CondVC.dec (fun h => ?_) (fun h => ?_) | refine CondVC.ndec (fun h => ?_) (fun h => ?_) | refine CondVC.mk (fun h => ?_) (fun h => ?_) | refine ArVC.i64 (by first | omega | (simp only; omega)) ?_ | refine SideVC.mk (by first | omega | decide | (simp only; omega) | (simp [slS]; done) | (simp [slS]; omega) | (simp only [byteE_len, mvE_len, strE_len, intE_len, esC_len, List.length_cons, List.length_nil, List.length_append, List.length_replicate, List.length_set, Int.toNat_natCast, and_true] at *; omega)) ?_ | refine LoopN.go ?_ | exact trivial | refine AltVC.mk ?_ ?_ | refine HeldVC.mk rfl ?_ | refine LoadVC.mk _ g1 ?_ | refine CallVC.pure h1 rfl ?_ | refine CallVC.pure h2 rfl ?_ | refine OpVC.more tt_ok ?_ | refine RestVC.ext tt_ok ?_)); all_goals (conv => whnf)
          all_goals first
            | (exfalso; omega)
            | exact ⟨j + 1, by omega, by omega, Sub.mk [(1001, 54)] _ ⟨rfl, rfl, rfl, rfl, rfl, rfl, rfl, rfl, rfl, trivial⟩ (by rw [he]; rfl) rfl⟩
            | (exfalso; simp_all; done)
        | false =>
          rw [hg, if_neg Bool.false_ne_true, List.append_nil] at hps
          rw [hg] at h2
          (repeat' ((conv => whnf); first | refine CondVC.t ?_ | refine CondVC.f ?_ | refine CondVC.dec (fun h => ?_) (fun h => ?_) | refine CondVC.ndec (fun h => ?_) (fun h => ?_) | refine CondVC.mk (fun h => ?_) (fun h => ?_) | refine ArVC.i64 (by first | omega | (simp only; omega)) ?_ | refine SideVC.mk (by first | omega | decide | (simp only; omega) | (simp [slS]; done) | (simp [slS]; omega) | (simp only [byteE_len, mvE_len, strE_len, intE_len, esC_len, List.length_cons, List.length_nil, List.length_append, List.length_replicate, List.length_set, Int.toNat_natCast, and_true] at *; omega)) ?_ | refine LoopN.go ?_ | exact trivial | refine AltVC.mk ?_ ?_ | refine HeldVC.mk rfl ?_ | refine LoadVC.mk _ g1 ?_ | refine CallVC.pure h1 rfl ?_ | refine CallVC.pure h2 rfl ?_ | refine OpVC.more tt_ok ?_ | refine RestVC.ext tt_ok ?_)); all_goals (conv => whnf)
          all_goals first
            | (exfalso; omega)
            | exact ⟨j + 1, by omega, by omega, Sub.mk [] _ ⟨rfl, rfl, rfl, rfl, rfl, rfl, rfl, rfl, rfl, trivial⟩ (by rw [hps]; rfl) rfl⟩
            | (exfalso; simp_all; done)
    · have e2 : j = 2 := by omega
      subst e2
      have he : byTo w o bk l k ++ partJ w o bk l k 2 = byTo w o bk l (k + 1) := by rw [hs]; rfl
      (repeat' ((conv => whnf); first | refine CondVC.t ?_ | refine CondVC.f ?_ | refine CondVC.dec (fun h => ?_) (fun h => ?_) | refine CondVC.ndec (fun h => ?_) (fun h => ?_) | refine CondVC.mk (fun h => ?_) (fun h => ?_) | refine ArVC.i64 (by first | omega | (simp only; omega)) ?_ | refine SideVC.mk (by first | omega | decide | (simp only; omega) | (simp [slS]; done) | (simp [slS]; omega) | (simp only [byteE_len, mvE_len, strE_len, intE_len, esC_len, List.length_cons, List.length_nil, List.length_append, List.length_replicate, List.length_set, Int.toNat_natCast, and_true] at *; omega)) ?_ | refine LoopN.go ?_ | exact trivial | refine AltVC.mk ?_ ?_ | refine HeldVC.mk rfl ?_ | refine OpVC.more tt_ok ?_ | refine RestVC.ext tt_ok ?_)); all_goals (conv => whnf)
      all_goals first
        | (exfalso; omega)
        | exact ⟨k + 1, by omega, by omega, Sub.mk [] _ ⟨rfl, rfl, rfl, rfl, rfl, trivial⟩ (by rw [← he]; rfl) rfl⟩
  · have e : k = w.length := by omega
    (repeat' ((conv => whnf); first | refine CondVC.t ?_ | refine CondVC.f ?_ | refine CondVC.dec (fun h => ?_) (fun h => ?_) | refine CondVC.ndec (fun h => ?_) (fun h => ?_) | refine CondVC.mk (fun h => ?_) (fun h => ?_) | refine ArVC.i64 (by first | omega | (simp only; omega)) ?_ | refine SideVC.mk (by first | omega | decide | (simp only; omega) | (simp [slS]; done) | (simp [slS]; omega) | (simp only [byteE_len, mvE_len, strE_len, intE_len, esC_len, List.length_cons, List.length_nil, List.length_append, List.length_replicate, List.length_set, Int.toNat_natCast, and_true] at *; omega)) ?_ | refine LoopN.go ?_ | exact trivial | refine AltVC.mk ?_ ?_ | refine HeldVC.mk rfl ?_ | refine OpVC.more tt_ok ?_ | refine RestVC.ext tt_ok ?_)); all_goals (conv => whnf)
    all_goals first
      | (exfalso; omega)
      | exact RetVC.res rfl (by rw [e]; rfl)

/-! ### Searched by the library -/
def idxM (m : Mv) (l : List Mv) : Int := if m ∈ l then (l.findIdx (fun x => decide (m = x)) : Nat) else -1
theorem idxM_ge (m : Mv) (l : List Mv) : decide (0 ≤ idxM m l) = decide (m ∈ l) := by
  unfold idxM
  by_cases h : m ∈ l
  · rw [if_pos h, decide_eq_true h, decide_eq_true (by omega)]
  · rw [if_neg h, decide_eq_false h]; rfl
def trI4 : Tr := .take 0 (.take 1 (.take 2 (.take 3 (.take 4 (.alt 5 .done .no)))))
theorem indexM_spec (l : List Mv) (m : Mv) (hl : l.length ≤ 2000000) : Spec Tryd.prog 118 [.c (.sl 1000), .agg (mvC m)] [(1000, .sl 33 2 (mvE l))]
    (isRes [i64 (idxM m l)] [(1000, .sl 33 2 (mvE l))]) := by
  have hn := mvE_len l
  refine Spec.of_wpx tt_ok Tryd.func118 (by kernel_rfl) rfl ?_
  (repeat' ((conv => whnf); first | refine CondVC.t ?_ | refine CondVC.f ?_ | refine CondVC.dec (fun h => ?_) (fun h => ?_) | refine CondVC.ndec (fun h => ?_) (fun h => ?_) | refine CondVC.mk (fun h => ?_) (fun h => ?_) | refine ArVC.i64 (by first | omega | (simp only; omega)) ?_ | refine SideVC.mk (by first | omega | decide | (simp only; omega) | (simp [slS]; done) | (simp [slS]; omega) | (simp only [byteE_len, mvE_len, strE_len, intE_len, esC_len, List.length_cons, List.length_nil, List.length_append, List.length_replicate, List.length_set, Int.toNat_natCast, and_true] at *; omega)) ?_ | refine LoopN.go ?_ | exact trivial | refine AltVC.mk ?_ ?_ | refine HeldVC.mk rfl ?_ | refine OpVC.more tt_ok ?_ | refine RestVC.ext tt_ok ?_)); all_goals (conv => whnf)
  refine LoopVC.mk (G := Nat) (fun k => ⟨[(8, .v (i64 k)), (7, .v (i64 l.length)), (3, .v (.c (.ptr 3 0))), (0, .v (.c (.sl 1000)))], [(3, .box 33 (mvC m)), (1000, .sl 33 2 (mvE l))]⟩)
    (fun k => k ≤ l.length ∧ ∀ j (hj : j < l.length), j < k → ¬ m = l[j]) (fun k => l.length - k) 0 ⟨by omega, fun j hj h => by omega⟩ (Sub.mk [] [] ⟨rfl, by rw [← hn]; rfl, rfl, rfl, trivial⟩ rfl rfl) ?_
  intro k ⟨hk, hkt⟩
  by_cases hlt : k < l.length
  · have g1 : (mvE l)[(k : Int).toNat]? = some (mvC l[k]) := by rw [Int.toNat_natCast]; exact mvE_get hlt
    have hnx : ¬ m = l[k] → k + 1 ≤ l.length ∧ ∀ j (hj : j < l.length), j < k + 1 → ¬ m = l[j] := fun e => ⟨hlt, fun j hj hjk => by
      by_cases ej : j = k
      · subst ej; exact e
      · exact hkt j hj (by omega)⟩
    have hyes : m = l[k] → idxM m l = (k : Int) := fun e => by
      unfold idxM
      rw [if_pos (e ▸ List.getElem_mem hlt), (List.findIdx_eq (p := fun x => decide (m = x)) hlt).2 ⟨decide_eq_true e, fun j hj => decide_eq_false (hkt j (by omega) hj)⟩]
    have hme := mv_ext (m := m) (n := l[k])
    generalize l[k] = n at *
    by_cases e : m = n
    · rw [decide_eq_true e] at hme
      rw [hyes e]
      (repeat' ((conv => whnf); first | refine CondVC.t ?_ | refine CondVC.f ?_ | refine CondVC.dec (fun h => ?_) (fun h => ?_) | refine CondVC.ndec (fun h => ?_) (fun h => ?_) | refine CondVC.mk (fun h => ?_) (fun h => ?_) | refine ArVC.i64 (by first | omega | (simp only; omega)) ?_ | refine SideVC.mk (by first | omega | decide | (simp only; omega) | (simp [slS]; done) | (simp [slS]; omega) | (simp only [byteE_len, mvE_len, strE_len, intE_len, esC_len, List.length_cons, List.length_nil, List.length_append, List.length_replicate, List.length_set, Int.toNat_natCast, and_true] at *; omega)) ?_ | refine LoopN.go ?_ | exact trivial | refine AltVC.mk ?_ ?_ | refine HeldVC.mk rfl ?_ | refine DrawVC.tree (id := 4) tt_ok [3, 1000] trI4 (by kernel_rfl) (by kernel_rfl) rfl ?_ | refine LoadVC.mk _ g1 ?_ | refine RestVC2.eqMv strMv true rfl rfl rfl hme ?_ | refine SideVC.mk (by simp only [hn]; omega) ?_ | refine OpVC.more tt_ok ?_ | refine RestVC.ext tt_ok ?_)); all_goals (conv => whnf)
      all_goals first
        | (exfalso; omega)
        | exact RetVC.res rfl rfl
    · rw [decide_eq_false e] at hme
      (repeat' ((conv => whnf); first | refine CondVC.t ?_ | refine CondVC.f ?_ | refine CondVC.dec (fun h => ?_) (fun h => ?_) | refine CondVC.ndec (fun h => ?_) (fun h => ?_) | refine CondVC.mk (fun h => ?_) (fun h => ?_) | refine ArVC.i64 (by first | omega | (simp only; omega)) ?_ | refine SideVC.mk (by first | omega | decide | (simp only; omega) | (simp [slS]; done) | (simp [slS]; omega) | (simp only [byteE_len, mvE_len, strE_len, intE_len, esC_len, List.length_cons, List.length_nil, List.length_append, List.length_replicate, List.length_set, Int.toNat_natCast, and_true] at *; omega)) ?_ | refine LoopN.go ?_ | exact trivial | refine AltVC.mk ?_ ?_ | refine HeldVC.mk rfl ?_ | refine DrawVC.tree (id := 4) tt_ok [3, 1000] trI4 (by kernel_rfl) (by kernel_rfl) rfl ?_ | refine LoadVC.mk _ g1 ?_ | refine RestVC2.eqMv strMv false rfl rfl rfl hme ?_ | refine SideVC.mk (by simp only [hn]; omega) ?_ | refine OpVC.more tt_ok ?_ | refine RestVC.ext tt_ok ?_)); all_goals (conv => whnf)
      all_goals first
        | (exfalso; omega)
        | exact ⟨k + 1, hnx e, by omega, Sub.mk [] _ ⟨rfl, rfl, rfl, rfl, trivial⟩ rfl rfl⟩
  · have e : m ∉ l := fun h => by
      obtain ⟨j, hj, ej⟩ := List.getElem_of_mem h
      exact hkt j hj (by omega) ej.symm
    have hix : idxM m l = -1 := by unfold idxM; rw [if_neg e]
    rw [hix]
    (repeat' ((conv => whnf); first | refine CondVC.t ?_ | refine CondVC.f ?_ | refine CondVC.dec (fun h => ?_) (fun h => ?_) | refine CondVC.ndec (fun h => ?_) (fun h => ?_) | refine CondVC.mk (fun h => ?_) (fun h => ?_) | refine ArVC.i64 (by first | omega | (simp only; omega)) ?_ | refine SideVC.mk (by first | omega | decide | (simp only; omega) | (simp [slS]; done) | (simp [slS]; omega) | (simp only [byteE_len, mvE_len, strE_len, intE_len, esC_len, List.length_cons, List.length_nil, List.length_append, List.length_replicate, List.length_set, Int.toNat_natCast, and_true] at *; omega)) ?_ | refine LoopN.go ?_ | exact trivial | refine AltVC.mk ?_ ?_ | refine HeldVC.mk rfl ?_ | refine OpVC.more tt_ok ?_ | refine RestVC.ext tt_ok ?_)); all_goals (conv => whnf)
    all_goals first
      | (exfalso; omega)
      | exact RetVC.res rfl rfl
theorem containsM_spec (l : List Mv) (m : Mv) (hl : l.length ≤ 2000000) : Spec Tryd.prog 68 [.c (.sl 1000), .agg (mvC m)] [(1000, .sl 33 2 (mvE l))]
    (isRes [vb (decide (m ∈ l))] [(1000, .sl 33 2 (mvE l))]) := by
  have h1 := indexM_spec l m hl
  rw [← idxM_ge]
  refine Spec.of_wpx tt_ok Tryd.func68 (by kernel_rfl) rfl ?_
  (repeat' ((conv => whnf); first | refine CondVC.t ?_ | refine CondVC.f ?_ | refine CondVC.dec (fun h => ?_) (fun h => ?_) | refine CondVC.ndec (fun h => ?_) (fun h => ?_) | refine CondVC.mk (fun h => ?_) (fun h => ?_) | refine ArVC.i64 (by first | omega | (simp only; omega)) ?_ | refine SideVC.mk (by first | omega | decide | (simp only; omega) | (simp [slS]; done) | (simp [slS]; omega) | (simp only [byteE_len, mvE_len, strE_len, intE_len, esC_len, List.length_cons, List.length_nil, List.length_append, List.length_replicate, List.length_set, Int.toNat_natCast, and_true] at *; omega)) ?_ | refine LoopN.go ?_ | exact trivial | refine AltVC.mk ?_ ?_ | refine HeldVC.mk rfl ?_ | refine CallVC.res [1000] rfl h1 rfl ?_ | refine OpVC.more tt_ok ?_ | refine RestVC.ext tt_ok ?_)); all_goals (conv => whnf)
  all_goals exact RetVC.res rfl rfl

/-! ### What is asked -/
def askR (w : Tx) (o bk l : Bool) : List Mv := if lineOf w 10 then ruL w o bk l else []
theorem few12 {w : Tx} (h : lineOf w 10 = true) : w.all okCh = true ∧ w.length ≤ 10 := ⟨line_ok h, by have := line_len h; omega⟩
theorem implRuleMoves_spec (w : Tx) (o bk l : Bool) (hw : w.length ≤ 1048576) : Spec Tryd.prog 13 [.c (.str w), ruleV o bk l] [] (isRes [.c (.sl 1001), vb (lineOf w 10)] [(1001, .sl 33 2 (mvE (askR w o bk l)))]) := by
  have h1 := isReachLine_spec w hw
  unfold askR
  refine Spec.of_wpx tt_ok Tryd.func13 (by kernel_rfl) rfl ?_
  cases hl : lineOf w 10 with
  | true =>
    obtain ⟨hok, hlen⟩ := few12 hl
    have h2 := movesBy_spec w o bk l (by omega)
    rw [by_ru hok] at h2
    rw [hl] at h1
    rw [if_pos rfl]
    (repeat' ((conv => whnf); first | refine CondVC.t ?_ | refine CondVC.f ?_ | refine CondVC.dec (fun h => ?_) (fun h => ?_) | refine CondVC.ndec (fun h => ?_) (fun h => ?_) | refine CondVC.mk (fun h => ?_) (fun h => ?_) | refine ArVC.i64 (by first | omega | (simp only; omega)) ?_ | refine SideVC.mk (by first | omega | decide | (simp only; omega) | (simp [slS]; done) | (simp [slS]; omega) | (simp only [byteE_len, mvE_len, strE_len, intE_len, esC_len, List.length_cons, List.length_nil, List.length_append, List.length_replicate, List.length_set, Int.toNat_natCast, and_true] at *; omega)) ?_ | refine LoopN.go ?_ | exact trivial | refine AltVC.mk ?_ ?_ | refine HeldVC.mk rfl ?_ | refine CallVC.pure h1 rfl ?_ | refine CallVC.res [] rfl h2 rfl ?_ | refine OpVC.more tt_ok ?_ | refine RestVC.ext tt_ok ?_)); all_goals (conv => whnf)
    all_goals exact RetVC.res rfl rfl
  | false =>
    rw [hl] at h1
    rw [if_neg Bool.false_ne_true]
    (repeat' ((conv => whnf); first | refine CondVC.t ?_ | refine CondVC.f ?_ | refine CondVC.dec (fun h => ?_) (fun h => ?_) | refine CondVC.ndec (fun h => ?_) (fun h => ?_) | refine CondVC.mk (fun h => ?_) (fun h => ?_) | refine ArVC.i64 (by first | omega | (simp only; omega)) ?_ | refine SideVC.mk (by first | omega | decide | (simp only; omega) | (simp [slS]; done) | (simp [slS]; omega) | (simp only [byteE_len, mvE_len, strE_len, intE_len, esC_len, List.length_cons, List.length_nil, List.length_append, List.length_replicate, List.length_set, Int.toNat_natCast, and_true] at *; omega)) ?_ | refine LoopN.go ?_ | exact trivial | refine AltVC.mk ?_ ?_ | refine HeldVC.mk rfl ?_ | refine CallVC.pure h1 rfl ?_ | refine OpVC.more tt_ok ?_ | refine RestVC.ext tt_ok ?_)); all_goals (conv => whnf)
    all_goals exact RetVC.nil 1001 33 2 [.c (.sl 1001), vb false] [(3, .box 31 [.bool o, .bool bk, .bool l])] rfl rfl rfl (RetVC.res rfl rfl)
def cbF (w : Tx) (o bk l : Bool) (m : Mv) : Bool := lineOf w 10 && rcF w o bk l m
theorem implCanByRule_spec (w : Tx) (m : Mv) (o bk l : Bool) (hw : w.length ≤ 1048576) : Spec Tryd.prog 19 [.c (.str w), .agg (mvC m), ruleV o bk l] [] (isRes [vb (cbF w o bk l m), vb (lineOf w 10)] []) := by
  have h1 := isReachLine_spec w hw
  unfold cbF
  refine Spec.of_wpx tt_ok Tryd.func19 (by kernel_rfl) rfl ?_
  cases hl : lineOf w 10 with
  | true =>
    obtain ⟨hok, hlen⟩ := few12 hl
    have h2 := Spec.ren [(1001, 2001)] [(2001, 1001)] (movesBy_spec w o bk l (by omega)) rfl rfl rfl
    have h3 := Spec.ren [(1000, 2001)] [(2001, 1000)] (containsM_spec (byL w o bk l) m (by have := byTo_len w o bk l w.length; unfold byTo at this; unfold byL; omega)) rfl rfl rfl
    have e : rcF w o bk l m = decide (m ∈ byL w o bk l) := by rw [Bool.eq_iff_iff, decide_eq_true_eq, mem_by hok]
    rw [e, Bool.true_and]
    rw [hl] at h1
    generalize decide (m ∈ byL w o bk l) = q at *
    (repeat' ((conv => whnf); first | refine CondVC.t ?_ | refine CondVC.f ?_ | refine CondVC.dec (fun h => ?_) (fun h => ?_) | refine CondVC.ndec (fun h => ?_) (fun h => ?_) | refine CondVC.mk (fun h => ?_) (fun h => ?_) | refine ArVC.i64 (by first | omega | (simp only; omega)) ?_ | refine SideVC.mk (by first | omega | decide | (simp only; omega) | (simp [slS]; done) | (simp [slS]; omega) | (simp only [byteE_len, mvE_len, strE_len, intE_len, esC_len, List.length_cons, List.length_nil, List.length_append, List.length_replicate, List.length_set, Int.toNat_natCast, and_true] at *; omega)) ?_ | refine LoopN.go ?_ | exact trivial | refine AltVC.mk ?_ ?_ | refine HeldVC.mk rfl ?_ | refine CallVC.pure h1 rfl ?_ | refine DrawVC.tree (id := 3) tt_ok [4, 5] tr19_3 (by kernel_rfl) (by kernel_rfl) rfl ?_ | refine CallVC.res [] rfl h2 rfl ?_ | refine CallVC.res [2001] rfl h3 rfl ?_ | refine OpVC.more tt_ok ?_ | refine RestVC.ext tt_ok ?_)); all_goals (conv => whnf)
    all_goals exact RetVC.res rfl rfl
  | false =>
    rw [hl] at h1
    (repeat' ((conv => whnf); first | refine CondVC.t ?_ | refine CondVC.f ?_ | refine CondVC.dec (fun h => ?_) (fun h => ?_) | refine CondVC.ndec (fun h => ?_) (fun h => ?_) | refine CondVC.mk (fun h => ?_) (fun h => ?_) | refine ArVC.i64 (by first | omega | (simp only; omega)) ?_ | refine SideVC.mk (by first | omega | decide | (simp only; omega) | (simp [slS]; done) | (simp [slS]; omega) | (simp only [byteE_len, mvE_len, strE_len, intE_len, esC_len, List.length_cons, List.length_nil, List.length_append, List.length_replicate, List.length_set, Int.toNat_natCast, and_true] at *; omega)) ?_ | refine LoopN.go ?_ | exact trivial | refine AltVC.mk ?_ ?_ | refine HeldVC.mk rfl ?_ | refine CallVC.pure h1 rfl ?_ | refine OpVC.more tt_ok ?_ | refine RestVC.ext tt_ok ?_)); all_goals (conv => whnf)
    all_goals exact RetVC.res rfl rfl
theorem implMakeByRule_spec (w : Tx) (m : Mv) (o bk l : Bool) (hw : w.length ≤ 1048576) : Spec Tryd.prog 20 [.c (.str w), .agg (mvC m), ruleV o bk l] [] (isRes [.c (.str (if cbF w o bk l m then madeF w m else [])), vb (cbF w o bk l m)] []) := by
  have h1 := implCanByRule_spec w m o bk l hw
  cases hc : cbF w o bk l m with
  | true =>
    rw [hc] at h1
    have hc2 := hc
    unfold cbF at hc2
    simp only [Bool.and_eq_true] at hc2
    obtain ⟨hok, hlen⟩ := few12 hc2.1
    have hr := rc_iff.1 hc2.2
    have h3 := made_spec w m hr.1 hr.2.1 (by omega)
    rw [if_pos rfl]
    generalize madeF w m = t at *
    generalize lineOf w 10 = q at *
    refine Spec.of_wpx tt_ok Tryd.func20 (by kernel_rfl) rfl ?_
    (repeat' ((conv => whnf); first | refine CondVC.t ?_ | refine CondVC.f ?_ | refine CondVC.dec (fun h => ?_) (fun h => ?_) | refine CondVC.ndec (fun h => ?_) (fun h => ?_) | refine CondVC.mk (fun h => ?_) (fun h => ?_) | refine ArVC.i64 (by first | omega | (simp only; omega)) ?_ | refine SideVC.mk (by first | omega | decide | (simp only; omega) | (simp [slS]; done) | (simp [slS]; omega) | (simp only [byteE_len, mvE_len, strE_len, intE_len, esC_len, List.length_cons, List.length_nil, List.length_append, List.length_replicate, List.length_set, Int.toNat_natCast, and_true] at *; omega)) ?_ | refine LoopN.go ?_ | exact trivial | refine AltVC.mk ?_ ?_ | refine HeldVC.mk rfl ?_ | refine CallVC.pure h1 rfl ?_ | refine CallVC.pure h3 rfl ?_ | refine OpVC.more tt_ok ?_ | refine RestVC.ext tt_ok ?_)); all_goals (conv => whnf)
    all_goals exact RetVC.res rfl rfl
  | false =>
    rw [hc] at h1
    rw [if_neg Bool.false_ne_true]
    generalize lineOf w 10 = q at *
    refine Spec.of_wpx tt_ok Tryd.func20 (by kernel_rfl) rfl ?_
    (repeat' ((conv => whnf); first | refine CondVC.t ?_ | refine CondVC.f ?_ | refine CondVC.dec (fun h => ?_) (fun h => ?_) | refine CondVC.ndec (fun h => ?_) (fun h => ?_) | refine CondVC.mk (fun h => ?_) (fun h => ?_) | refine ArVC.i64 (by first | omega | (simp only; omega)) ?_ | refine SideVC.mk (by first | omega | decide | (simp only; omega) | (simp [slS]; done) | (simp [slS]; omega) | (simp only [byteE_len, mvE_len, strE_len, intE_len, esC_len, List.length_cons, List.length_nil, List.length_append, List.length_replicate, List.length_set, Int.toNat_natCast, and_true] at *; omega)) ?_ | refine LoopN.go ?_ | exact trivial | refine AltVC.mk ?_ ?_ | refine HeldVC.mk rfl ?_ | refine CallVC.pure h1 rfl ?_ | refine OpVC.more tt_ok ?_ | refine RestVC.ext tt_ok ?_)); all_goals (conv => whnf)
    all_goals exact RetVC.res rfl rfl
end Go.Proofs.YtaidpalamhmghaaDoor.X
