/- Clues added to a puzzle. No condition beyond each statement's. -/
import Derived.Test.YtaidpalamhmghaaDoorPuzzle
import Derived.Test.YtaidpalamhmghaaDoorCallE
import Derived.Test.YtaidpalamhmghaaDoorExt
import Derived.Test.YtaidpalamhmghaaDoorDrawJ
namespace Go.Proofs.YtaidpalamhmghaaDoor.X
open Go.Proofs
set_option maxRecDepth 100000
set_option linter.unusedVariables false
set_option linter.unusedSimpArgs false

def addOkF (n : Int) (l : List Cl) (c : Cl) : Bool := goodF n l && (clF n c && !decide (l.length = 6))
def addLF (n : Int) (l : List Cl) (c : Cl) : List Cl := if addOkF n l c then l ++ [c] else []
def addNF (n : Int) (l : List Cl) (c : Cl) : Int := if addOkF n l c then n else 0
theorem good_n {n : Int} {l : List Cl} (h : goodF n l = true) : (1 ≤ n ∧ n ≤ 5) ∧ l.length ≤ 6 := by
  simp only [goodF, Bool.and_eq_true, decide_eq_true_eq] at h
  exact ⟨h.1, h.2.1⟩
theorem esC_append (l l' : List Cl) : esC (l ++ l') = esC l ++ esC l' := by simp [esC]


/-! ### Cells numbered on -/
def marks3 (k : Int) (n : Nat) : List Cl := (List.range n).map fun (i : Nat) => (k + 3 * (i : Int), k + 3 * (i : Int) + 1, k + 3 * (i : Int) + 2)
theorem marks3_len (k : Int) (n : Nat) : (marks3 k n).length = n := by simp [marks3]
theorem marks3_get (k : Int) (n : Nat) {i : Nat} (h : i < (marks3 k n).length) : (marks3 k n)[i] = (k + 3 * (i : Int), k + 3 * (i : Int) + 1, k + 3 * (i : Int) + 2) := by simp [marks3]
def marked3 (l : List Cl) (k : Int) (i : Nat) : List Cl := marks3 k i ++ l.drop i
theorem marked3_len {l : List Cl} {k : Int} {i : Nat} (h : i ≤ l.length) : (marked3 l k i).length = l.length := by simp [marked3, marks3_len]; omega
theorem marked3_at {l : List Cl} {k : Int} {i : Nat} (h : i < l.length) : (marked3 l k i)[i]? = some l[i] := by
  unfold marked3
  rw [List.getElem?_append_right (by rw [marks3_len]; omega), marks3_len, Nat.sub_self, List.getElem?_drop, Nat.add_zero, List.getElem?_eq_getElem h]
theorem marked3_set {l : List Cl} {k : Int} {i : Nat} (h : i < l.length) : (marked3 l k i).set i (k + 3 * (i : Int), k + 3 * (i : Int) + 1, k + 3 * (i : Int) + 2) = marked3 l k (i + 1) := by
  unfold marked3
  rw [List.set_append_right _ _ (by rw [marks3_len]; omega), marks3_len, Nat.sub_self, List.drop_eq_getElem_cons h, List.set_cons_zero]
  have : marks3 k (i + 1) = marks3 k i ++ [(k + 3 * (i : Int), k + 3 * (i : Int) + 1, k + 3 * (i : Int) + 2)] := by simp [marks3, List.range_succ]
  rw [this, List.append_assoc]
  rfl
theorem markClueS_spec (l : List Cl) (k : Int) (hl : l.length ≤ 2000000) (hk0 : 0 ≤ k ∧ k ≤ 1000000000) : Spec Tryd.prog 61 [.c (.sl 1000), i64 k] [(1000, .sl 70 3 (esC l))]
    (isRes [i64 (k + 3 * l.length)] [(1000, .sl 70 3 (esC (marks3 k l.length)))]) := by
  refine Spec.of_wpx tt_ok Tryd.func61 (by kernel_rfl) rfl ?_
  (repeat' ((conv => whnf); first | refine CondVC.t ?_ | refine CondVC.f ?_ | refine CondVC.dec (fun h => ?_) (fun h => ?_) | refine CondVC.ndec (fun h => ?_) (fun h => ?_) | refine CondVC.mk (fun h => ?_) (fun h => ?_) | refine ArVC.i64 (by first | omega | (simp only; omega)) ?_ | refine SideVC.mk (by first | omega | decide | (simp only; omega) | (simp [slS]; done) | (simp [slS]; omega) | (simp only [byteE_len, mvE_len, strE_len, intE_len, esC_len, List.length_cons, List.length_nil, List.length_append, List.length_replicate, List.length_set, Int.toNat_natCast, and_true] at *; omega)) ?_ | refine LoopN.go ?_ | exact trivial | refine AltVC.mk ?_ ?_ | refine HeldVC.mk rfl ?_ | refine OpVC.more tt_ok ?_ | refine RestVC.ext tt_ok ?_)); all_goals (conv => whnf)
  refine LoopVC.mk (G := Nat) (fun i => ⟨[(5, .v (i64 i)), (1, .v (i64 (k + 3 * i))), (0, .v (.c (.sl 1000)))], [(1000, .sl 70 3 (esC (marked3 l k i)))]⟩)
    (fun i => i ≤ l.length) (fun i => l.length - i) 0 (by omega) (Sub.mk [] [] ⟨rfl, congrArg (fun z => some (E.v (i64 z))) (show k = k + 3 * ((0 : Nat) : Int) by omega), rfl, trivial⟩ (by rw [show marked3 l k 0 = l from by simp [marked3, marks3]]; rfl) rfl) ?_
  intro i hi
  have hml := marked3_len (l := l) (k := k) hi
  have hme := esC_len (marked3 l k i)
  by_cases hil : i < l.length
  · have hg1 : (esC (marked3 l k i))[i]? = some (clC l[i]) := by unfold esC; rw [List.getElem?_map, marked3_at hil]; rfl
    have hg2 : ((esC (marked3 l k i)).set (Int.toNat (i : Int)) (setAt (clC l[i]) 0 [C.int .i64 (k + 3 * i)]))[i]? = some [C.int .i64 (k + 3 * i), C.int .i64 l[i].2.1, C.int .i64 l[i].2.2] := by
      rw [Int.toNat_natCast, List.getElem?_set_self (by omega)]; rfl
    have hg3 : (((esC (marked3 l k i)).set (Int.toNat (i : Int)) (setAt (clC l[i]) 0 [C.int .i64 (k + 3 * i)])).set (Int.toNat (i : Int)) (setAt [C.int .i64 (k + 3 * i), C.int .i64 l[i].2.1, C.int .i64 l[i].2.2] (0 + 1) [C.int .i64 (k + 3 * i + 1)]))[i]? = some [C.int .i64 (k + 3 * i), C.int .i64 (k + 3 * i + 1), C.int .i64 l[i].2.2] := by
      rw [Int.toNat_natCast, List.getElem?_set_self (by simp; omega)]; rfl
    have hfin : (((esC (marked3 l k i)).set (Int.toNat (i : Int)) (setAt (clC l[i]) 0 [C.int .i64 (k + 3 * i)])).set (Int.toNat (i : Int)) (setAt [C.int .i64 (k + 3 * i), C.int .i64 l[i].2.1, C.int .i64 l[i].2.2] (0 + 1) [C.int .i64 (k + 3 * i + 1)])).set (Int.toNat (i : Int)) (setAt [C.int .i64 (k + 3 * i), C.int .i64 (k + 3 * i + 1), C.int .i64 l[i].2.2] (0 + 2) [C.int .i64 (k + 3 * i + 1 + 1)]) = esC (marked3 l k (i + 1)) := by
      rw [Int.toNat_natCast, List.set_set, List.set_set]
      unfold esC
      rw [← marked3_set hil, List.map_set, show k + 3 * (i : Int) + 1 + 1 = k + 3 * (i : Int) + 2 by omega]
      rfl
    (repeat' ((conv => whnf); first | refine CondVC.t ?_ | refine CondVC.f ?_ | refine CondVC.dec (fun h => ?_) (fun h => ?_) | refine CondVC.ndec (fun h => ?_) (fun h => ?_) | refine CondVC.mk (fun h => ?_) (fun h => ?_) | refine ArVC.i64 (by first | omega | (simp only; omega)) ?_ | refine SideVC.mk (by first | omega | decide | (simp only; omega) | (simp [slS]; done) | (simp [slS]; omega) | (simp only [byteE_len, mvE_len, strE_len, intE_len, esC_len, List.length_cons, List.length_nil, List.length_append, List.length_replicate, List.length_set, Int.toNat_natCast, and_true] at *; omega)) ?_ | refine LoopN.go ?_ | exact trivial | refine AltVC.mk ?_ ?_ | refine HeldVC.mk rfl ?_ | refine LoadVC.mk _ hg1 ?_ | refine LoadVC.mk _ hg2 ?_ | refine LoadVC.mk _ hg3 ?_ | refine OpVC.more tt_ok ?_ | refine RestVC.ext tt_ok ?_)); all_goals (conv => whnf)
    all_goals first
      | exact ⟨i + 1, by omega, by omega, Sub.mk [] _ ⟨rfl, congrArg (fun z => some (E.v (i64 z))) (show k + 3 * (i : Int) + 1 + 1 + 1 = k + 3 * ((i + 1 : Nat) : Int) by omega), rfl, trivial⟩ (by rw [← hfin]; rfl) rfl⟩
      | (exfalso; omega)
  · have hi' : i = l.length := by omega
    (repeat' ((conv => whnf); first | refine CondVC.t ?_ | refine CondVC.f ?_ | refine CondVC.dec (fun h => ?_) (fun h => ?_) | refine CondVC.ndec (fun h => ?_) (fun h => ?_) | refine CondVC.mk (fun h => ?_) (fun h => ?_) | refine ArVC.i64 (by first | omega | (simp only; omega)) ?_ | refine SideVC.mk (by first | omega | decide | (simp only; omega) | (simp [slS]; done) | (simp [slS]; omega) | (simp only [byteE_len, mvE_len, strE_len, intE_len, esC_len, List.length_cons, List.length_nil, List.length_append, List.length_replicate, List.length_set, Int.toNat_natCast, and_true] at *; omega)) ?_ | refine LoopN.go ?_ | exact trivial | refine AltVC.mk ?_ ?_ | refine HeldVC.mk rfl ?_ | refine OpVC.more tt_ok ?_ | refine RestVC.ext tt_ok ?_)); all_goals (conv => whnf)
    · omega
    · exact RetVC.res (by rw [hi']; rfl) (by rw [show marks3 k l.length = marked3 l k i from by simp [marked3, hi']]; rfl)
theorem heldClueS_spec (n : Nat) (k : Int) (hl : n ≤ 2000000) (hk0 : 0 ≤ k ∧ k ≤ 1000000000) : Spec Tryd.prog 62 [.c (.sl 1000), i64 k] [(1000, .sl 70 3 (esC (marks3 k n)))]
    (isRes [i64 (k + 3 * n)] [(1000, .sl 70 3 (esC (marks3 k n)))]) := by
  have hme := esC_len (marks3 k n)
  rw [marks3_len] at hme
  refine Spec.of_wpx tt_ok Tryd.func62 (by kernel_rfl) rfl ?_
  (repeat' ((conv => whnf); first | refine CondVC.t ?_ | refine CondVC.f ?_ | refine CondVC.dec (fun h => ?_) (fun h => ?_) | refine CondVC.ndec (fun h => ?_) (fun h => ?_) | refine CondVC.mk (fun h => ?_) (fun h => ?_) | refine ArVC.i64 (by first | omega | (simp only; omega)) ?_ | refine SideVC.mk (by first | omega | decide | (simp only; omega) | (simp [slS]; done) | (simp [slS]; omega) | (simp only [byteE_len, mvE_len, strE_len, intE_len, esC_len, List.length_cons, List.length_nil, List.length_append, List.length_replicate, List.length_set, Int.toNat_natCast, and_true] at *; omega)) ?_ | refine LoopN.go ?_ | exact trivial | refine AltVC.mk ?_ ?_ | refine HeldVC.mk rfl ?_ | refine OpVC.more tt_ok ?_ | refine RestVC.ext tt_ok ?_)); all_goals (conv => whnf)
  refine LoopVC.mk (G := Nat) (fun i => ⟨[(5, .v (i64 i)), (1, .v (i64 (k + 3 * i))), (0, .v (.c (.sl 1000)))], [(1000, .sl 70 3 (esC (marks3 k n)))]⟩)
    (fun i => i ≤ n) (fun i => n - i) 0 (by omega) (Sub.mk [] [] ⟨rfl, congrArg (fun z => some (E.v (i64 z))) (show k = k + 3 * ((0 : Nat) : Int) by omega), rfl, trivial⟩ rfl rfl) ?_
  intro i hi
  by_cases hil : i < n
  · have hg1 : (esC (marks3 k n))[i]? = some [C.int .i64 (k + 3 * i), C.int .i64 (k + 3 * i + 1), C.int .i64 (k + 3 * i + 2)] := by
      have h1 : i < (marks3 k n).length := by rw [marks3_len]; exact hil
      rw [get_esC h1, marks3_get k n h1]; rfl
    (repeat' ((conv => whnf); first | refine CondVC.t ?_ | refine CondVC.f ?_ | refine CondVC.dec (fun h => ?_) (fun h => ?_) | refine CondVC.ndec (fun h => ?_) (fun h => ?_) | refine CondVC.mk (fun h => ?_) (fun h => ?_) | refine ArVC.i64 (by first | omega | (simp only; omega)) ?_ | refine SideVC.mk (by first | omega | decide | (simp only; omega) | (simp [slS]; done) | (simp [slS]; omega) | (simp only [byteE_len, mvE_len, strE_len, intE_len, esC_len, List.length_cons, List.length_nil, List.length_append, List.length_replicate, List.length_set, Int.toNat_natCast, and_true] at *; omega)) ?_ | refine LoopN.go ?_ | exact trivial | refine AltVC.mk ?_ ?_ | refine HeldVC.mk rfl ?_ | refine LoadVC.mk _ hg1 ?_ | refine OpVC.more tt_ok ?_ | refine RestVC.ext tt_ok ?_)); all_goals (conv => whnf)
    all_goals first
      | exact ⟨i + 1, by omega, by omega, Sub.mk [] _ ⟨rfl, congrArg (fun z => some (E.v (i64 z))) (show k + 3 * (i : Int) + 1 + 1 + 1 = k + 3 * ((i + 1 : Nat) : Int) by omega), rfl, trivial⟩ rfl rfl⟩
      | (exfalso; omega)
  · have hi' : i = n := by omega
    (repeat' ((conv => whnf); first | refine CondVC.t ?_ | refine CondVC.f ?_ | refine CondVC.dec (fun h => ?_) (fun h => ?_) | refine CondVC.ndec (fun h => ?_) (fun h => ?_) | refine CondVC.mk (fun h => ?_) (fun h => ?_) | refine ArVC.i64 (by first | omega | (simp only; omega)) ?_ | refine SideVC.mk (by first | omega | decide | (simp only; omega) | (simp [slS]; done) | (simp [slS]; omega) | (simp only [byteE_len, mvE_len, strE_len, intE_len, esC_len, List.length_cons, List.length_nil, List.length_append, List.length_replicate, List.length_set, Int.toNat_natCast, and_true] at *; omega)) ?_ | refine LoopN.go ?_ | exact trivial | refine AltVC.mk ?_ ?_ | refine HeldVC.mk rfl ?_ | refine OpVC.more tt_ok ?_ | refine RestVC.ext tt_ok ?_)); all_goals (conv => whnf)
    · omega
    · exact RetVC.res (by rw [hi']; rfl) rfl
theorem markPuzzle_spec (n : Int) (l : List Cl) (hl : l.length ≤ 2000000) : Spec Tryd.prog 11 [.agg [.int .i64 n, .sl 1000], i64 1] [(1000, .sl 70 3 (esC l))]
    (isRes [i64 (1 + 3 * l.length)] [(1000, .sl 70 3 (esC (marks3 1 l.length)))]) := by
  refine Spec.of_wpx tt_ok Tryd.func11 (by kernel_rfl) rfl ?_
  (repeat' ((conv => whnf); first | refine CondVC.t ?_ | refine CondVC.f ?_ | refine CondVC.dec (fun h => ?_) (fun h => ?_) | refine CondVC.ndec (fun h => ?_) (fun h => ?_) | refine CondVC.mk (fun h => ?_) (fun h => ?_) | refine ArVC.i64 (by first | omega | (simp only; omega)) ?_ | refine SideVC.mk (by first | omega | decide | (simp only; omega) | (simp [slS]; done) | (simp [slS]; omega) | (simp only [byteE_len, mvE_len, strE_len, intE_len, esC_len, List.length_cons, List.length_nil, List.length_append, List.length_replicate, List.length_set, Int.toNat_natCast, and_true] at *; omega)) ?_ | refine LoopN.go ?_ | exact trivial | refine AltVC.mk ?_ ?_ | refine HeldVC.mk rfl ?_ | refine CallVC.res [1000] rfl (markClueS_spec l 1 hl (by omega)) rfl ?_ | refine OpVC.more tt_ok ?_ | refine RestVC.ext tt_ok ?_)); all_goals (conv => whnf)
  all_goals exact RetVC.res rfl rfl
theorem heldPuzzle_spec (n : Int) (m : Nat) (hl : m ≤ 2000000) : Spec Tryd.prog 12 [.agg [.int .i64 n, .sl 1000], i64 1] [(1000, .sl 70 3 (esC (marks3 1 m)))]
    (isRes [i64 (1 + 3 * m)] [(1000, .sl 70 3 (esC (marks3 1 m)))]) := by
  refine Spec.of_wpx tt_ok Tryd.func12 (by kernel_rfl) rfl ?_
  (repeat' ((conv => whnf); first | refine CondVC.t ?_ | refine CondVC.f ?_ | refine CondVC.dec (fun h => ?_) (fun h => ?_) | refine CondVC.ndec (fun h => ?_) (fun h => ?_) | refine CondVC.mk (fun h => ?_) (fun h => ?_) | refine ArVC.i64 (by first | omega | (simp only; omega)) ?_ | refine SideVC.mk (by first | omega | decide | (simp only; omega) | (simp [slS]; done) | (simp [slS]; omega) | (simp only [byteE_len, mvE_len, strE_len, intE_len, esC_len, List.length_cons, List.length_nil, List.length_append, List.length_replicate, List.length_set, Int.toNat_natCast, and_true] at *; omega)) ?_ | refine LoopN.go ?_ | exact trivial | refine AltVC.mk ?_ ?_ | refine HeldVC.mk rfl ?_ | refine CallVC.res [1000] rfl (heldClueS_spec m 1 hl (by omega)) rfl ?_ | refine OpVC.more tt_ok ?_ | refine RestVC.ext tt_ok ?_)); all_goals (conv => whnf)
  all_goals first
    | exact RetVC.res rfl rfl
    | (exfalso; omega)
theorem eqPuzzle_self (n : Int) (l : List Cl) (hl : l.length ≤ 2000000) : Spec Tryd.prog 10 [.agg [.int .i64 n, .sl 1000], .agg [.int .i64 n, .sl 1001]] [(1000, .sl 70 3 (esC l)), (1001, .sl 70 3 (esC l))]
    (isRes [vb true] [(1000, .sl 70 3 (esC l)), (1001, .sl 70 3 (esC l))]) := by
  have := eqPuzzle_spec n n l l hl
  rwa [decide_eq_true ⟨rfl, rfl⟩] at this
theorem addLF_len (n : Int) (l : List Cl) (c : Cl) : (addLF n l c).length ≤ 7 := by
  unfold addLF
  by_cases h : addOkF n l c = true
  · rw [if_pos h]
    simp only [addOkF, Bool.and_eq_true] at h
    have := (good_n h.1).2
    simp; omega
  · rw [if_neg h]; simp

end Go.Proofs.YtaidpalamhmghaaDoor.X
