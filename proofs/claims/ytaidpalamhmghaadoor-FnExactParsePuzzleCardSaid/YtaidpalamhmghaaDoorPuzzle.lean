/- Puzzles: what the program and the reference hold for a puzzle is the same. No condition. -/
import Derived.Test.YtaidpalamhmghaaDoorClue
import Derived.Test.YtaidpalamhmghaaDoorTrees
import Derived.Test.YtaidpalamhmghaaDoorCall
namespace Go.Proofs.YtaidpalamhmghaaDoor.X
open Go.Proofs
set_option maxRecDepth 100000
set_option linter.unusedVariables false

def zeroC : List C := [.int .i64 0, .int .i64 0, .int .i64 0]
theorem len_esC (l : List Cl) : (esC l).length = l.length := by simp [esC]

def szF (n : Nat) (left : Int) : Int := if left - n < 0 then -1 else left - n



/-- After k rounds. -/
def partC (l : List Cl) (k : Nat) : List (List C) := esC (l.take k) ++ List.replicate (l.length - k) zeroC
theorem part_len {l : List Cl} {k : Nat} (h : k ≤ l.length) : (esC (l.take k)).length = k := by simp [esC]; omega
theorem part_get {l : List Cl} {k : Nat} (h : k < l.length) : (partC l k)[k]? = some zeroC := by
  unfold partC
  have h1 := part_len (l := l) (k := k) (by omega)
  rw [List.getElem?_append_right (by omega), h1, Nat.sub_self, List.getElem?_replicate, if_pos (by omega)]
theorem part_set {l : List Cl} {k : Nat} (h : k < l.length) : (partC l k).set k (clC l[k]) = partC l (k + 1) := by
  unfold partC
  have h1 := part_len (l := l) (k := k) (by omega)
  have h2 : esC (l.take (k + 1)) = esC (l.take k) ++ [clC l[k]] := by unfold esC; rw [List.take_succ_eq_append_getElem h, List.map_append]; rfl
  rw [List.set_append_right _ _ (by omega), h1, Nat.sub_self, show l.length - k = (l.length - (k + 1)) + 1 by omega, List.replicate_succ, List.set_cons_zero, h2, List.append_assoc]
  rfl
theorem part_zero (l : List Cl) : partC l 0 = List.replicate l.length zeroC := by simp [partC, esC]
theorem part_end (l : List Cl) : partC l l.length = esC l := by simp [partC]



theorem eqClue_spec (c c' : Cl) : Spec Tryd.prog 114 [.agg (clC c), .agg (clC c')] [] (isRes [vb (decide (c = c'))] []) := by
  obtain ⟨k, a, b⟩ := c
  obtain ⟨k', a', b'⟩ := c'
  refine Spec.of_wpx tt_ok Tryd.func114 (by kernel_rfl) rfl ?_
  (repeat' ((conv => whnf); first | refine CondVC.t ?_ | refine CondVC.f ?_ | refine CondVC.dec (fun h => ?_) (fun h => ?_) | refine CondVC.ndec (fun h => ?_) (fun h => ?_) | refine CondVC.mk (fun h => ?_) (fun h => ?_) | refine ArVC.i64 (by first | omega | (simp only; omega)) ?_ | refine SideVC.mk (by first | omega | decide | (simp only; omega) | (simp [slS]; done) | (simp [slS]; omega) | (simp only [byteE_len, mvE_len, strE_len, intE_len, esC_len, List.length_cons, List.length_nil, List.length_append, List.length_replicate, List.length_set, Int.toNat_natCast, and_true] at *; omega)) ?_ | refine LoopN.go ?_ | exact trivial | refine AltVC.mk ?_ ?_ | refine HeldVC.mk rfl ?_ | refine OpVC.more tt_ok ?_ | refine RestVC.ext tt_ok ?_)); all_goals (conv => whnf)
  all_goals exact RetVC.res (by simp_all [vb]) rfl

theorem eqClueS_spec (l l' : List Cl) (hl : l.length ≤ 2000000) : Spec Tryd.prog 60 [.c (.sl 1000), .c (.sl 1001)] [(1000, .sl 70 3 (esC l)), (1001, .sl 70 3 (esC l'))]
    (isRes [vb (decide (l = l'))] [(1000, .sl 70 3 (esC l)), (1001, .sl 70 3 (esC l'))]) := by
  have hn := len_esC l
  have hn' := len_esC l'
  refine Spec.of_wpx tt_ok Tryd.func60 (by kernel_rfl) rfl ?_
  (repeat' ((conv => whnf); first | refine CondVC.t ?_ | refine CondVC.f ?_ | refine CondVC.dec (fun h => ?_) (fun h => ?_) | refine CondVC.ndec (fun h => ?_) (fun h => ?_) | refine CondVC.mk (fun h => ?_) (fun h => ?_) | refine ArVC.i64 (by first | omega | (simp only; omega)) ?_ | refine SideVC.mk (by first | omega | decide | (simp only; omega) | (simp [slS]; done) | (simp [slS]; omega) | (simp only [byteE_len, mvE_len, strE_len, intE_len, esC_len, List.length_cons, List.length_nil, List.length_append, List.length_replicate, List.length_set, Int.toNat_natCast, and_true] at *; omega)) ?_ | refine LoopN.go ?_ | exact trivial | refine AltVC.mk ?_ ?_ | refine HeldVC.mk rfl ?_ | refine OpVC.more tt_ok ?_ | refine OpVC.more tt_ok ?_ | refine RestVC.ext tt_ok ?_)); all_goals (conv => whnf)
  · exact RetVC.res (by simp only [vb]; rw [decide_eq_false]; intro e; apply h; rw [e]) rfl
  have hll : l.length = l'.length := by simp only [hn, hn', Classical.not_not] at h; omega
  refine LoopVC.mk (G := Nat) (fun k => ⟨[(5, .v (i64 k)), (1, .v (.c (.sl 1001))), (0, .v (.c (.sl 1000)))], [(1000, .sl 70 3 (esC l)), (1001, .sl 70 3 (esC l'))]⟩)
    (fun k => k ≤ l.length ∧ l.take k = l'.take k) (fun k => l.length - k) 0 ⟨by omega, by simp⟩ (Sub.mk [] [] ⟨rfl, rfl, rfl, trivial⟩ rfl rfl) ?_
  intro k ⟨hk, hkt⟩
  (repeat' ((conv => whnf); first | refine CondVC.t ?_ | refine CondVC.f ?_ | refine CondVC.dec (fun h => ?_) (fun h => ?_) | refine CondVC.ndec (fun h => ?_) (fun h => ?_) | refine CondVC.mk (fun h => ?_) (fun h => ?_) | refine ArVC.i64 (by first | omega | (simp only; omega)) ?_ | refine SideVC.mk (by first | omega | decide | (simp only; omega) | (simp [slS]; done) | (simp [slS]; omega) | (simp only [byteE_len, mvE_len, strE_len, intE_len, esC_len, List.length_cons, List.length_nil, List.length_append, List.length_replicate, List.length_set, Int.toNat_natCast, and_true] at *; omega)) ?_ | refine LoopN.go ?_ | exact trivial | refine AltVC.mk ?_ ?_ | refine HeldVC.mk rfl ?_ | refine OpVC.more tt_ok ?_ | refine DrawVC.quiet tt_ok (by kernel_rfl) (by kernel_rfl) ?_ | refine QCallVC.pure (eqClue_spec _ _) rfl ?_ | refine LoadVC.mk _ (get_esC (l := l) (k := k) (by simp only [hn] at *; omega)) ?_ | refine LoadVC.mk _ (get_esC (l := l') (k := k) (by simp only [hn] at *; omega)) ?_ | refine OpVC.more tt_ok ?_ | refine RestVC.ext tt_ok ?_)); all_goals (conv => whnf)
  · rename_i hk' h'
    have hk2 : k < l.length := by simp only [hn] at hk'; omega
    refine RetVC.res ?_ rfl
    simp only [vb]
    rw [decide_eq_false]
    intro e
    subst e
    exact h rfl
  · rename_i hk'
    have hk2 : k < l.length := by simp only [hn] at hk'; omega
    exact ⟨k + 1, ⟨hk2, by rw [List.take_succ_eq_append_getElem hk2, List.take_succ_eq_append_getElem (by omega), hkt, h]⟩, by omega, Sub.mk [] [] ⟨rfl, rfl, rfl, trivial⟩ rfl rfl⟩
  · have hk2 : k = l.length := by simp only [hn] at h; omega
    refine RetVC.res ?_ rfl
    simp only [vb]
    rw [decide_eq_true]
    rw [hk2, List.take_length, hll, List.take_length] at hkt
    exact hkt

def clF (n : Int) (c : Cl) : Bool := pzClueF n c.1 c.2.1 c.2.2
def goodF (n : Int) (l : List Cl) : Bool := decide (1 ≤ n ∧ n ≤ 5) && (decide (l.length ≤ 6) && l.all (clF n))

theorem all_false {p : Cl → Bool} {l : List Cl} {k : Nat} (h : k < l.length) (hp : p l[k] = false) : l.all p = false := by
  rw [List.all_eq_false]
  exact ⟨l[k], List.getElem_mem h, by simp [hp]⟩
theorem all_true {p : Cl → Bool} {l : List Cl} (h : ∀ j (hj : j < l.length), p l[j] = true) : l.all p = true := by
  rw [List.all_eq_true]
  intro x hx
  obtain ⟨j, hj, rfl⟩ := List.getElem_of_mem hx
  exact h j hj

theorem pzGood_spec (n : Int) (l : List Cl) : Spec Tryd.prog 102 [.agg [.int .i64 n, .sl 1000]] [(1000, .sl 70 3 (esC l))]
    (isRes [vb (goodF n l)] [(1000, .sl 70 3 (esC l))]) := by
  have hn := len_esC l
  refine Spec.of_wpx tt_ok Tryd.func102 (by kernel_rfl) rfl ?_
  (repeat' ((conv => whnf); first | refine CondVC.t ?_ | refine CondVC.f ?_ | refine CondVC.dec (fun h => ?_) (fun h => ?_) | refine CondVC.ndec (fun h => ?_) (fun h => ?_) | refine CondVC.mk (fun h => ?_) (fun h => ?_) | refine ArVC.i64 (by first | omega | (simp only; omega)) ?_ | refine SideVC.mk (by first | omega | decide | (simp only; omega) | (simp [slS]; done) | (simp [slS]; omega) | (simp only [byteE_len, mvE_len, strE_len, intE_len, esC_len, List.length_cons, List.length_nil, List.length_append, List.length_replicate, List.length_set, Int.toNat_natCast, and_true] at *; omega)) ?_ | refine LoopN.go ?_ | exact trivial | refine AltVC.mk ?_ ?_ | refine HeldVC.mk rfl ?_ | refine OpVC.more tt_ok ?_ | refine CallVC.pure (pzCells_spec _) rfl ?_ | refine OpVC.more tt_ok ?_ | refine RestVC.ext tt_ok ?_)); all_goals (conv => whnf)
  · exact RetVC.res (by simp [goodF, vb, h]) rfl
  · exact RetVC.res (by simp only [hn] at *; simp [goodF, vb]; omega) rfl
  rename_i hc
  refine LoopVC.mk (G := Nat) (fun k => ⟨[(18, .v (i64 k)), (17, .v (i64 (esC l).length)), (16, .v (.c (.sl 1000))), (2, .v (vb false)), (1, .v (.c (.ptr 1 0)))], [(1, .box 24 [.int .i64 n, .sl 1000]), (1000, .sl 70 3 (esC l))]⟩)
    (fun k => k ≤ l.length ∧ ∀ j (hj : j < l.length), j < k → clF n l[j] = true) (fun k => l.length - k) 0 ⟨by omega, fun j hj h => by omega⟩ (Sub.mk [] [] ⟨rfl, rfl, rfl, rfl, rfl, trivial⟩ rfl rfl) ?_
  intro k ⟨hk, hkt⟩
  (repeat' ((conv => whnf); first | refine CondVC.t ?_ | refine CondVC.f ?_ | refine CondVC.dec (fun h => ?_) (fun h => ?_) | refine CondVC.ndec (fun h => ?_) (fun h => ?_) | refine CondVC.mk (fun h => ?_) (fun h => ?_) | refine ArVC.i64 (by first | omega | (simp only; omega)) ?_ | refine SideVC.mk (by first | omega | decide | (simp only; omega) | (simp [slS]; done) | (simp [slS]; omega) | (simp only [byteE_len, mvE_len, strE_len, intE_len, esC_len, List.length_cons, List.length_nil, List.length_append, List.length_replicate, List.length_set, Int.toNat_natCast, and_true] at *; omega)) ?_ | refine LoopN.go ?_ | exact trivial | refine AltVC.mk ?_ ?_ | refine HeldVC.mk rfl ?_ | refine OpVC.more tt_ok ?_ | refine CallVC.pure (pzClue_spec _ _ _ _ (by omega)) rfl ?_ | refine LoadVC.mk _ (get_esC (l := l) (k := k) (by simp only [hn] at *; omega)) ?_ | refine OpVC.more tt_ok ?_ | refine RestVC.ext tt_ok ?_)); all_goals (conv => whnf)
  · rename_i hk'
    have hk2 : k < l.length := by simp only [hn] at hk'; omega
    refine RetVC.res ?_ rfl
    have h3 : clF n l[k] = false := by simpa [clF] using h
    simp [vb, goodF, all_false hk2 h3]
  · rename_i hk'
    have hk2 : k < l.length := by simp only [hn] at hk'; omega
    have h3 : clF n l[k] = true := by simpa [clF] using h
    refine ⟨k + 1, ⟨hk2, fun j hj hjk => ?_⟩, by omega, Sub.mk [] [(4, _)] ⟨rfl, rfl, rfl, rfl, rfl, trivial⟩ rfl rfl⟩
    by_cases hjk' : j = k
    · subst hjk'; exact h3
    · exact hkt j hj (by omega)
  · have hk2 : k = l.length := by simp only [hn] at h; omega
    refine RetVC.res ?_ rfl
    have h3 := all_true fun j hj => hkt j hj (by omega)
    rename_i hlen
    simp only [hn] at hlen
    simp [vb, goodF, h3, hc]; omega

def idxF (p : Cl → Bool) (l : List Cl) : Int := if l.findIdx p < l.length then (l.findIdx p : Int) else -1

theorem bad_spec (n : Int) (l : List Cl) (c : Cl) : Spec Tryd.prog 110 [.agg (clC c), .c (.ptr 1002 0)] [(1000, .sl 70 3 (esC l)), (1002, .box 24 [.int .i64 n, .sl 1000])]
    (isRes [vb (!isClueF n c.1 c.2.1 c.2.2)] [(1000, .sl 70 3 (esC l)), (1002, .box 24 [.int .i64 n, .sl 1000])]) := by
  refine Spec.of_wpx tt_ok Tryd.func110 (by kernel_rfl) rfl ?_
  (repeat' ((conv => whnf); first | refine CondVC.t ?_ | refine CondVC.f ?_ | refine CondVC.dec (fun h => ?_) (fun h => ?_) | refine CondVC.ndec (fun h => ?_) (fun h => ?_) | refine CondVC.mk (fun h => ?_) (fun h => ?_) | refine ArVC.i64 (by first | omega | (simp only; omega)) ?_ | refine SideVC.mk (by first | omega | decide | (simp only; omega) | (simp [slS]; done) | (simp [slS]; omega) | (simp only [byteE_len, mvE_len, strE_len, intE_len, esC_len, List.length_cons, List.length_nil, List.length_append, List.length_replicate, List.length_set, Int.toNat_natCast, and_true] at *; omega)) ?_ | refine LoopN.go ?_ | exact trivial | refine AltVC.mk ?_ ?_ | refine HeldVC.mk rfl ?_ | refine OpVC.more tt_ok ?_ | refine CallVC.pure (implIsClue_spec _ _ _ _) rfl ?_ | refine OpVC.more tt_ok ?_ | refine RestVC.ext tt_ok ?_)); all_goals (conv => whnf)
  all_goals exact RetVC.res rfl rfl

def badF (n : Int) (c : Cl) : Bool := !isClueF n c.1 c.2.1 c.2.2

theorem indexFuncP_spec (n : Int) (l : List Cl) (hl : l.length ≤ 2000000) : Spec Tryd.prog 146 [.c (.sl 1000), .c (.fn 110 [1002])] [(1000, .sl 70 3 (esC l)), (1002, .box 24 [.int .i64 n, .sl 1000])]
    (isRes [i64 (idxF (badF n) l)] [(1000, .sl 70 3 (esC l)), (1002, .box 24 [.int .i64 n, .sl 1000])]) := by
  have hn := len_esC l
  refine Spec.of_wpx tt_ok Tryd.func146 (by kernel_rfl) rfl ?_
  (repeat' ((conv => whnf); first | refine CondVC.t ?_ | refine CondVC.f ?_ | refine CondVC.dec (fun h => ?_) (fun h => ?_) | refine CondVC.ndec (fun h => ?_) (fun h => ?_) | refine CondVC.mk (fun h => ?_) (fun h => ?_) | refine ArVC.i64 (by first | omega | (simp only; omega)) ?_ | refine SideVC.mk (by first | omega | decide | (simp only; omega) | (simp [slS]; done) | (simp [slS]; omega) | (simp only [byteE_len, mvE_len, strE_len, intE_len, esC_len, List.length_cons, List.length_nil, List.length_append, List.length_replicate, List.length_set, Int.toNat_natCast, and_true] at *; omega)) ?_ | refine LoopN.go ?_ | exact trivial | refine AltVC.mk ?_ ?_ | refine HeldVC.mk rfl ?_ | refine OpVC.more tt_ok ?_ | refine OpVC.more tt_ok ?_ | refine RestVC.ext tt_ok ?_)); all_goals (conv => whnf)
  refine LoopVC.mk (G := Nat) (fun k => ⟨[(8, .v (i64 k)), (7, .v (i64 (esC l).length)), (4, .v (i64 0)), (1, .v (.c (.fn 110 [1002]))), (0, .v (.c (.sl 1000)))], [(1000, .sl 70 3 (esC l)), (1002, .box 24 [.int .i64 n, .sl 1000])]⟩)
    (fun k => k ≤ l.length ∧ ∀ j (hj : j < l.length), j < k → badF n l[j] = false) (fun k => l.length - k) 0 ⟨by omega, fun j hj h => by omega⟩ (Sub.mk [] [] ⟨rfl, rfl, rfl, rfl, rfl, trivial⟩ rfl rfl) ?_
  intro k ⟨hk, hkt⟩
  (repeat' ((conv => whnf); first | refine CondVC.t ?_ | refine CondVC.f ?_ | refine CondVC.dec (fun h => ?_) (fun h => ?_) | refine CondVC.ndec (fun h => ?_) (fun h => ?_) | refine CondVC.mk (fun h => ?_) (fun h => ?_) | refine ArVC.i64 (by first | omega | (simp only; omega)) ?_ | refine SideVC.mk (by first | omega | decide | (simp only; omega) | (simp [slS]; done) | (simp [slS]; omega) | (simp only [byteE_len, mvE_len, strE_len, intE_len, esC_len, List.length_cons, List.length_nil, List.length_append, List.length_replicate, List.length_set, Int.toNat_natCast, and_true] at *; omega)) ?_ | refine LoopN.go ?_ | exact trivial | refine AltVC.mk ?_ ?_ | refine HeldVC.mk rfl ?_ | refine OpVC.more tt_ok ?_ | refine CallVC.res [1000, 1002] rfl (bad_spec n l _) rfl ?_ | refine LoadVC.mk _ (get_esC (l := l) (k := k) (by simp only [hn] at *; omega)) ?_ | refine OpVC.more tt_ok ?_ | refine RestVC.ext tt_ok ?_)); all_goals (conv => whnf)
  · rename_i hk'
    have hk2 : k < l.length := by simp only [hn] at hk'; omega
    have h3 : badF n l[k] = true := h
    have h4 := (List.findIdx_eq hk2).2 ⟨h3, fun j hj => hkt j (by omega) hj⟩
    exact RetVC.res (by simp [idxF, h4, hk2]; rfl) rfl
  · rename_i hk'
    have hk2 : k < l.length := by simp only [hn] at hk'; omega
    refine ⟨k + 1, ⟨hk2, fun j hj hjk => ?_⟩, by omega, Sub.mk [] [] ⟨rfl, rfl, rfl, rfl, rfl, trivial⟩ rfl rfl⟩
    by_cases hjk' : j = k
    · subst hjk'; exact h
    · exact hkt j hj (by omega)
  · have hk2 : k = l.length := by simp only [hn] at h; omega
    have h4 : l.findIdx (badF n) = l.length := List.findIdx_eq_length.2 fun x hx => by
      obtain ⟨j, hj, rfl⟩ := List.getElem_of_mem hx
      exact hkt j hj (by omega)
    exact RetVC.res (by simp [idxF, h4]; rfl) rfl

theorem contains_spec (n : Int) (l : List Cl) (hl : l.length ≤ 2000000) : Spec Tryd.prog 109 [.c (.sl 1000), .c (.fn 110 [1002])] [(1000, .sl 70 3 (esC l)), (1002, .box 24 [.int .i64 n, .sl 1000])]
    (isRes [vb (decide (0 ≤ idxF (badF n) l))] [(1000, .sl 70 3 (esC l)), (1002, .box 24 [.int .i64 n, .sl 1000])]) := by
  refine Spec.of_wpx tt_ok Tryd.func109 (by kernel_rfl) rfl ?_
  (repeat' ((conv => whnf); first | refine CondVC.t ?_ | refine CondVC.f ?_ | refine CondVC.dec (fun h => ?_) (fun h => ?_) | refine CondVC.ndec (fun h => ?_) (fun h => ?_) | refine CondVC.mk (fun h => ?_) (fun h => ?_) | refine ArVC.i64 (by first | omega | (simp only; omega)) ?_ | refine SideVC.mk (by first | omega | decide | (simp only; omega) | (simp [slS]; done) | (simp [slS]; omega) | (simp only [byteE_len, mvE_len, strE_len, intE_len, esC_len, List.length_cons, List.length_nil, List.length_append, List.length_replicate, List.length_set, Int.toNat_natCast, and_true] at *; omega)) ?_ | refine LoopN.go ?_ | exact trivial | refine AltVC.mk ?_ ?_ | refine HeldVC.mk rfl ?_ | refine CallVC.res [1000, 1002] rfl (indexFuncP_spec n l hl) rfl ?_ | refine OpVC.more tt_ok ?_ | refine RestVC.ext tt_ok ?_)); all_goals (conv => whnf)
  all_goals exact RetVC.res rfl rfl

theorem idx_all (n : Int) (l : List Cl) (hc : 1 ≤ n ∧ n ≤ 5) : decide (0 ≤ idxF (badF n) l) = !(l.all (clF n)) := by
  have e : ∀ c, badF n c = !(clF n c) := fun c => by simp [badF, isClueF, clF, hc]
  unfold idxF
  by_cases h : l.findIdx (badF n) < l.length
  · rw [if_pos h]
    have h1 := List.findIdx_getElem (w := h)
    rw [e] at h1
    rw [all_false h (by simpa using h1)]
    simp
  · rw [if_neg h]
    have h2 : l.findIdx (badF n) = l.length := by have := List.findIdx_le_length (p := badF n) (xs := l); omega
    rw [List.findIdx_eq_length] at h2
    have h3 : l.all (clF n) = true := List.all_eq_true.2 fun x hx => by have := h2 x hx; rw [e] at this; simpa using this
    rw [h3]; rfl

theorem implIsPuzzle_spec (n : Int) (l : List Cl) (hl : l.length ≤ 2000000) : Spec Tryd.prog 58 [.agg [.int .i64 n, .sl 1000]] [(1000, .sl 70 3 (esC l))]
    (isRes [vb (goodF n l)] [(1000, .sl 70 3 (esC l))]) := by
  have hn := len_esC l
  refine Spec.of_wpx tt_ok Tryd.func58 (by kernel_rfl) rfl ?_
  (repeat' ((conv => whnf); first | refine CondVC.t ?_ | refine CondVC.f ?_ | refine CondVC.dec (fun h => ?_) (fun h => ?_) | refine CondVC.ndec (fun h => ?_) (fun h => ?_) | refine CondVC.mk (fun h => ?_) (fun h => ?_) | refine ArVC.i64 (by first | omega | (simp only; omega)) ?_ | refine SideVC.mk (by first | omega | decide | (simp only; omega) | (simp [slS]; done) | (simp [slS]; omega) | (simp only [byteE_len, mvE_len, strE_len, intE_len, esC_len, List.length_cons, List.length_nil, List.length_append, List.length_replicate, List.length_set, Int.toNat_natCast, and_true] at *; omega)) ?_ | refine LoopN.go ?_ | exact trivial | refine AltVC.mk ?_ ?_ | refine HeldVC.mk rfl ?_ | refine OpVC.more tt_ok ?_ | refine CallVC.pure (within_spec _ _ _) rfl ?_ | refine CallVC.res [1000, 1] rfl (Spec.ren [(1002, 1)] [(1, 1002)] (contains_spec n l hl) rfl rfl rfl) rfl ?_ | refine OpVC.more tt_ok ?_ | refine RestVC.ext tt_ok ?_)); all_goals (conv => whnf)
  · rename_i hc
    refine RetVC.res ?_ rfl
    simp only [hn] at h
    rw [idx_all n l hc]
    simp [goodF, vb, hc]; omega
  · refine RetVC.res ?_ rfl
    simp only [hn] at h
    simp [goodF, vb]; omega
  · refine RetVC.res ?_ rfl
    simp [goodF, vb, h]


theorem eqPuzzle_spec (n n' : Int) (l l' : List Cl) (hl : l.length ≤ 2000000) : Spec Tryd.prog 10 [.agg [.int .i64 n, .sl 1000], .agg [.int .i64 n', .sl 1001]] [(1000, .sl 70 3 (esC l)), (1001, .sl 70 3 (esC l'))]
    (isRes [vb (decide (n = n' ∧ l = l'))] [(1000, .sl 70 3 (esC l)), (1001, .sl 70 3 (esC l'))]) := by
  refine Spec.of_wpx tt_ok Tryd.func10 (by kernel_rfl) rfl ?_
  (repeat' ((conv => whnf); first | refine CondVC.t ?_ | refine CondVC.f ?_ | refine CondVC.dec (fun h => ?_) (fun h => ?_) | refine CondVC.ndec (fun h => ?_) (fun h => ?_) | refine CondVC.mk (fun h => ?_) (fun h => ?_) | refine ArVC.i64 (by first | omega | (simp only; omega)) ?_ | refine SideVC.mk (by first | omega | decide | (simp only; omega) | (simp [slS]; done) | (simp [slS]; omega) | (simp only [byteE_len, mvE_len, strE_len, intE_len, esC_len, List.length_cons, List.length_nil, List.length_append, List.length_replicate, List.length_set, Int.toNat_natCast, and_true] at *; omega)) ?_ | refine LoopN.go ?_ | exact trivial | refine AltVC.mk ?_ ?_ | refine HeldVC.mk rfl ?_ | refine CallVC.res [1000, 1001] rfl (eqClueS_spec l l' hl) rfl ?_ | refine OpVC.more tt_ok ?_ | refine RestVC.ext tt_ok ?_)); all_goals (conv => whnf)
  all_goals exact RetVC.res (by simp_all [vb]) rfl

theorem szF_le {n : Nat} (h : ¬ szF n 1048576 < 0) : n ≤ 1048576 := by
  unfold szF at h
  split at h <;> omega

end Go.Proofs.YtaidpalamhmghaaDoor.X
