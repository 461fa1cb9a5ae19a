/- Clues taken out of a puzzle. No condition beyond each statement's. -/
import Derived.Test.YtmfhfndokkhhdaaAdd
import Derived.Test.YtmfhfndokkhhdaaDel
namespace Go.Proofs.Ytmfhfndokkhhdaa.X
open Go.Proofs
set_option maxRecDepth 100000
set_option linter.unusedVariables false
set_option linter.unusedSimpArgs false

def dropOkF (n : Int) (l : List Cl) (k : Int) : Bool := goodF n l && decide (0 ≤ k ∧ k ≤ (l.length : Int) - 1)
def lessF (l : List Cl) (k : Nat) : List Cl := l.take k ++ l.drop (k + 1)
def dropLF (n : Int) (l : List Cl) (k : Int) : List Cl := if dropOkF n l k then lessF l k.toNat else []
def dropNF (n : Int) (l : List Cl) (k : Int) : Int := if dropOkF n l k then n else 0
theorem esC_take (l : List Cl) (k : Nat) : esC (l.take k) = (esC l).take k := by simp [esC]
theorem esC_drop (l : List Cl) (k : Nat) : esC (l.drop k) = (esC l).drop k := by simp [esC]
theorem lessF_len {l : List Cl} {k : Nat} (h : k < l.length) : (lessF l k).length + 1 = l.length := by simp [lessF]; omega
theorem RetVC.cutC {D0 : List Nat} {vals : List V} {mem rest : Mem} {post : List V → Mem → Prop} {T : TypeId} {es es' : List (List C)} (z r sz n : Nat) (vs : List V) (hv : vals = vs.map (V.uncut z r sz n))
    (hm : pickL mem [r] = some ([(r, .sl T sz es)], rest)) (hn : n ≤ es.length) (hfr : freshN D0 [(0, .tup vals)] rest z = true) (he : es.take n = es') (h : RetVC D0 vs ((z, .sl T sz es') :: rest) post) : RetVC D0 vals mem post :=
  RetVC.cut z r sz n vs hv hm hn hfr (he ▸ h)

theorem pzWithout_spec (l : List Cl) (k : Nat) (hk : k < l.length) (hl : l.length ≤ 1000000) : Spec Try.prog 20 [.c (.sl 1000), i64 k] [(1000, .sl 59 3 (esC l))]
    (isRes [.c (.sl 1001)] [(1000, .sl 59 3 (esC l)), (1001, .sl 59 3 (esC (lessF l k)))]) := by
  have hn := esC_len l
  have hfin : [] ++ ((esC l).drop (0 : Int).toNat).take ((k : Int).toNat - (0 : Int).toNat) ++ ((esC l).drop ((k : Int) + 1).toNat).take (((esC l).length : Int).toNat - ((k : Int) + 1).toNat) = esC (lessF l k) := by
    unfold lessF
    rw [esC_append, esC_take, esC_drop, show ((k : Int) + 1).toNat = k + 1 by omega, show (0 : Int).toNat = 0 from rfl, Int.toNat_natCast, Int.toNat_natCast, List.drop_zero, List.nil_append, Nat.sub_zero, List.take_of_length_le (l := (esC l).drop (k + 1)) (by rw [List.length_drop]; omega)]
  refine Spec.of_wpx tt_ok Try.func20 (by kernel_rfl) rfl ?_
  (repeat' ((conv => whnf); first | refine CondVC.t ?_ | refine CondVC.f ?_ | refine CondVC.dec (fun h => ?_) (fun h => ?_) | refine CondVC.ndec (fun h => ?_) (fun h => ?_) | refine CondVC.mk (fun h => ?_) (fun h => ?_) | refine ArVC.i64 (by first | omega | (simp only; omega)) ?_ | refine SideVC.mk (by first | omega | decide | (simp only; omega) | (simp [slS]; done) | (simp [slS]; omega) | (simp only [byteE_len, mvE_len, strE_len, intE_len, esC_len, List.length_cons, List.length_nil, List.length_append, List.length_replicate, List.length_set, Int.toNat_natCast, and_true] at *; omega)) ?_ | refine LoopN.go ?_ | exact trivial | refine AltVC.mk ?_ ?_ | refine HeldVC.mk rfl ?_ | refine DrawVC.tree (id := 1) tt_ok [1000] tr20_1 (by kernel_rfl) (by kernel_rfl) rfl ?_ | refine SideVC.mk (by simp only [List.length_append, List.length_take, List.length_drop, List.length_cons, List.length_nil, hn, Int.toNat_natCast] at *; omega) ?_ | refine OpVC.more tt_ok ?_ | refine RestVC.ext tt_ok ?_)); all_goals (conv => whnf)
  all_goals first
    | (exfalso; omega)
    | exact RetVC.ren [(1001, 14)] [.c (.sl 1001)] [(1000, .sl 59 3 (esC l)), (1001, .sl 59 3 ([] ++ ((esC l).drop (0 : Int).toNat).take ((k : Int).toNat - (0 : Int).toNat) ++ ((esC l).drop ((k : Int) + 1).toNat).take (((esC l).length : Int).toNat - ((k : Int) + 1).toNat)))] rfl rfl rfl ⟨rfl, by rw [hfin]⟩
theorem delete_spec (l : List Cl) (k : Nat) (hk : k < l.length) (hl : l.length ≤ 1000000) : Spec Try.prog 42 [.c (.sl 1000), i64 k, i64 ((k : Int) + 1)] [(1000, .sl 59 3 (esC l))]
    (isRes [.c (.sl 1011)] [(1011, .sl 59 3 (esC (lessF l k)))]) := by
  have hn := esC_len l
  have hll := lessF_len hk
  have hle := esC_len (lessF l k)
  have ei : (k : Int).toNat - (0 : Int).toNat = k := by omega
  have ej : ((k : Int) + 1).toNat = k + 1 := by omega
  have em : ((esC l).length : Int).toNat - (k + 1) = l.length - (k + 1) := by omega
  have hj : ((k : Int) + 1).toNat + (((esC l).length : Int).toNat - ((k : Int) + 1).toNat) = (esC l).length := by omega
  have hi : ((k : Int).toNat - (0 : Int).toNat) + (((esC l).length : Int).toNat - ((k : Int) + 1).toNat) ≤ (esC l).length := by omega
  have h0 : 0 < (esC l).length := by omega
  have hL : ((esC l).take ((k : Int).toNat - (0 : Int).toNat) ++ (esC l).drop ((k : Int) + 1).toNat ++ (esC l).drop (((k : Int).toNat - (0 : Int).toNat) + (((esC l).length : Int).toNat - ((k : Int) + 1).toNat))).length = (esC l).length := by
    simp only [List.length_append, List.length_take, List.length_drop, hn]; omega
  have hfin : ∀ zs, ((((esC l).take ((k : Int).toNat - (0 : Int).toNat) ++ (esC l).drop ((k : Int) + 1).toNat ++ (esC l).drop (((k : Int).toNat - (0 : Int).toNat) + (((esC l).length : Int).toNat - ((k : Int) + 1).toNat)))).take (((((k : Int).toNat - (0 : Int).toNat) + (((esC l).length : Int).toNat - ((k : Int) + 1).toNat) : Nat) : Int)).toNat ++ zs).take (((k : Int).toNat - (0 : Int).toNat) + (((esC l).length : Int).toNat - ((k : Int) + 1).toNat)) = esC (lessF l k) := fun zs => by
    have e0 : Int.toNat 0 = 0 := rfl
    simp only [Int.toNat_natCast, ej, e0, Nat.sub_zero, hn]
    have e1 : (esC l).take k ++ (esC l).drop (k + 1) = esC (lessF l k) := by unfold lessF; rw [esC_append, esC_take, esC_drop]
    rw [e1, show k + (l.length - (k + 1)) = (esC (lessF l k)).length by omega, List.take_left, List.take_left' rfl]
  have hsc : (0 : Int) ≤ ((((k : Int).toNat - (0 : Int).toNat) + (((esC l).length : Int).toNat - ((k : Int) + 1).toNat) : Nat) : Int) ∧ ((((k : Int).toNat - (0 : Int).toNat) + (((esC l).length : Int).toNat - ((k : Int) + 1).toNat) : Nat) : Int) ≤ ((esC l).length : Int) ∧ ((esC l).length : Int) ≤ (((esC l).take ((k : Int).toNat - (0 : Int).toNat) ++ (esC l).drop ((k : Int) + 1).toNat ++ (esC l).drop (((k : Int).toNat - (0 : Int).toNat) + (((esC l).length : Int).toNat - ((k : Int) + 1).toNat))).length : Int) := by
    rw [hL]; omega
  have hcl : (((((k : Int).toNat - (0 : Int).toNat) + (((esC l).length : Int).toNat - ((k : Int) + 1).toNat) : Nat) : Int)).toNat + (((esC l).length : Int).toNat - (((((k : Int).toNat - (0 : Int).toNat) + (((esC l).length : Int).toNat - ((k : Int) + 1).toNat) : Nat) : Int)).toNat) = ((esC l).take ((k : Int).toNat - (0 : Int).toNat) ++ (esC l).drop ((k : Int) + 1).toNat ++ (esC l).drop (((k : Int).toNat - (0 : Int).toNat) + (((esC l).length : Int).toNat - ((k : Int) + 1).toNat))).length := by
    rw [hL]; omega
  refine Spec.of_wpx tt_ok Try.func42 (by kernel_rfl) rfl ?_
  (repeat' ((conv => whnf); first | refine CondVC.t ?_ | refine CondVC.f ?_ | refine CondVC.dec (fun h => ?_) (fun h => ?_) | refine CondVC.ndec (fun h => ?_) (fun h => ?_) | refine CondVC.mk (fun h => ?_) (fun h => ?_) | refine ArVC.i64 (by first | omega | (simp only; omega)) ?_ | refine SideVC.mk (by first | omega | decide | (simp only; omega) | (simp [slS]; done) | (simp [slS]; omega) | (simp only [byteE_len, mvE_len, strE_len, intE_len, esC_len, List.length_cons, List.length_nil, List.length_append, List.length_replicate, List.length_set, Int.toNat_natCast, and_true] at *; omega)) ?_ | refine LoopN.go ?_ | exact trivial | refine AltVC.mk ?_ ?_ | refine HeldVC.mk rfl ?_ | refine RestVC2.out (RestVC2.sliceMax tt_ok rfl rfl rfl rfl rfl rfl rfl rfl (by omega) rfl ?_) | refine DrawVC.tree (id := 5) tt_ok [] tr42_5 (by kernel_rfl) (by kernel_rfl) rfl ?_ | refine RestVC2.appendIn tt_ok rfl rfl rfl rfl rfl rfl hj hi h0 ?_ | refine RestVC2.subCap tt_ok rfl rfl rfl rfl rfl rfl hsc ?_ | refine RestVC2.clear tt_ok rfl rfl rfl rfl hcl ?_ | refine OpVC.more tt_ok ?_ | refine RestVC.ext tt_ok ?_)); all_goals (conv => whnf)
  all_goals first
    | (exfalso; omega)
    | exact RetVC.cutC 1011 1000 3 (((k : Int).toNat - (0 : Int).toNat) + (((esC l).length : Int).toNat - ((k : Int) + 1).toNat)) [.c (.sl 1011)] rfl rfl (by simp only [List.length_append, List.length_take, List.length_drop, List.length_replicate, hn]; omega) rfl (hfin _) (RetVC.res rfl rfl)
theorem without_spec (l : List Cl) (k : Nat) (hk : k < l.length) (hl : l.length ≤ 1000000) : Spec Try.prog 24 [.c (.sl 1000), i64 k] [(1000, .sl 59 3 (esC l))]
    (isRes [.c (.sl 1001)] [(1000, .sl 59 3 (esC l)), (1001, .sl 59 3 (esC (lessF l k)))]) := by
  have h1 := Spec.ren [(1001, 2001)] [(2001, 1001)] (clone_spec l hl) rfl rfl rfl
  have h2 := Spec.ren [(1000, 2001)] [(2001, 1000)] (delete_spec l k hk hl) rfl rfl rfl
  refine Spec.of_wpx tt_ok Try.func24 (by kernel_rfl) rfl ?_
  (repeat' ((conv => whnf); first | refine CondVC.t ?_ | refine CondVC.f ?_ | refine CondVC.dec (fun h => ?_) (fun h => ?_) | refine CondVC.ndec (fun h => ?_) (fun h => ?_) | refine CondVC.mk (fun h => ?_) (fun h => ?_) | refine ArVC.i64 (by first | omega | (simp only; omega)) ?_ | refine SideVC.mk (by first | omega | decide | (simp only; omega) | (simp [slS]; done) | (simp [slS]; omega) | (simp only [byteE_len, mvE_len, strE_len, intE_len, esC_len, List.length_cons, List.length_nil, List.length_append, List.length_replicate, List.length_set, Int.toNat_natCast, and_true] at *; omega)) ?_ | refine LoopN.go ?_ | exact trivial | refine AltVC.mk ?_ ?_ | refine HeldVC.mk rfl ?_ | refine CallVC.res [1000] rfl h1 rfl ?_ | refine CallVC.res [2001] rfl h2 rfl ?_ | refine OpVC.more tt_ok ?_ | refine RestVC.ext tt_ok ?_)); all_goals (conv => whnf)
  all_goals exact RetVC.ren [(1001, 1011)] [.c (.sl 1001)] [(1000, .sl 59 3 (esC l)), (1001, .sl 59 3 (esC (lessF l k)))] rfl rfl rfl ⟨rfl, rfl⟩

theorem dropLF_len (n : Int) (l : List Cl) (k : Int) : (dropLF n l k).length ≤ 7 := by
  unfold dropLF
  by_cases h : dropOkF n l k = true
  · rw [if_pos h]
    simp only [dropOkF, Bool.and_eq_true] at h
    have := (good_n h.1).2
    unfold lessF
    simp only [List.length_append, List.length_take, List.length_drop]; omega
  · rw [if_neg h]; simp
theorem specDropClue_spec (n : Int) (l : List Cl) (k : Int) : Spec Try.prog 6 [.agg [.int .i64 n, .sl 1000], i64 k] [(1000, .sl 59 3 (esC l))]
    (isRes [.agg [.int .i64 (dropNF n l k), .sl 1001], vb (dropOkF n l k)] [(1000, .sl 59 3 (esC l)), (1001, .sl 59 3 (esC (dropLF n l k)))]) := by
  have h1 := pzGood_spec n l
  have hn := esC_len l
  unfold dropNF dropLF
  cases hg : goodF n l with
  | false =>
    have e : dropOkF n l k = false := by simp [dropOkF, hg]
    rw [e, if_neg Bool.false_ne_true, if_neg Bool.false_ne_true]
    rw [hg] at h1
    refine Spec.of_wpx tt_ok Try.func6 (by kernel_rfl) rfl ?_
    (repeat' ((conv => whnf); first | refine CondVC.t ?_ | refine CondVC.f ?_ | refine CondVC.dec (fun h => ?_) (fun h => ?_) | refine CondVC.ndec (fun h => ?_) (fun h => ?_) | refine CondVC.mk (fun h => ?_) (fun h => ?_) | refine ArVC.i64 (by first | omega | (simp only; omega)) ?_ | refine SideVC.mk (by first | omega | decide | (simp only; omega) | (simp [slS]; done) | (simp [slS]; omega) | (simp only [byteE_len, mvE_len, strE_len, intE_len, esC_len, List.length_cons, List.length_nil, List.length_append, List.length_replicate, List.length_set, Int.toNat_natCast, and_true] at *; omega)) ?_ | refine LoopN.go ?_ | exact trivial | refine AltVC.mk ?_ ?_ | refine HeldVC.mk rfl ?_ | refine CallVC.res [1000] rfl h1 rfl ?_ | refine OpVC.more tt_ok ?_ | refine RestVC.ext tt_ok ?_)); all_goals (conv => whnf)
    all_goals exact RetVC.nil 1001 59 3 [.agg [.int .i64 0, .sl 1001], vb false] [(1000, .sl 59 3 (esC l)), (4, .box 28 [.int .i64 0, .val (.slice none 0 0)]), (2, .box 28 [.int .i64 n, .sl 1000])] rfl rfl rfl (RetVC.res rfl rfl)
  | true =>
    rw [hg] at h1
    obtain ⟨hnn, hll⟩ := good_n hg
    have h2 := l1In_spec k 0 ((l.length : Int) - 1)
    rw [← hn] at h2
    by_cases hc : 0 ≤ k ∧ k ≤ (l.length : Int) - 1
    · have e : dropOkF n l k = true := by unfold dropOkF; rw [hg, decide_eq_true hc]; rfl
      rw [e, if_pos rfl, if_pos rfl]
      rw [decide_eq_true (by rw [hn]; exact hc)] at h2
      obtain ⟨j, rfl⟩ := Int.eq_ofNat_of_zero_le hc.1
      have h3 := Spec.ren [(1001, 2001)] [(2001, 1001)] (pzWithout_spec l j (by omega) (by omega)) rfl rfl rfl
      refine Spec.of_wpx tt_ok Try.func6 (by kernel_rfl) rfl ?_
      (repeat' ((conv => whnf); first | refine CondVC.t ?_ | refine CondVC.f ?_ | refine CondVC.dec (fun h => ?_) (fun h => ?_) | refine CondVC.ndec (fun h => ?_) (fun h => ?_) | refine CondVC.mk (fun h => ?_) (fun h => ?_) | refine ArVC.i64 (by first | omega | (simp only; omega)) ?_ | refine SideVC.mk (by first | omega | decide | (simp only; omega) | (simp [slS]; done) | (simp [slS]; omega) | (simp only [byteE_len, mvE_len, strE_len, intE_len, esC_len, List.length_cons, List.length_nil, List.length_append, List.length_replicate, List.length_set, Int.toNat_natCast, and_true] at *; omega)) ?_ | refine LoopN.go ?_ | exact trivial | refine AltVC.mk ?_ ?_ | refine HeldVC.mk rfl ?_ | refine CallVC.res [1000] rfl h1 rfl ?_ | refine CallVC.pure h2 rfl ?_ | refine CallVC.res [1000] rfl h3 rfl ?_ | refine DrawVC.tree (id := 3) tt_ok [2, 1000] tr6_3 (by kernel_rfl) (by kernel_rfl) rfl ?_ | refine DrawVC.tree (id := 3) tt_ok [2] tr6_3 (by kernel_rfl) (by kernel_rfl) rfl ?_ | refine OpVC.more tt_ok ?_ | refine RestVC.ext tt_ok ?_)); all_goals (conv => whnf)
      all_goals first
        | exact RetVC.ren [(1001, 2001)] [.agg [.int .i64 n, .sl 1001], vb true] [(1000, .sl 59 3 (esC l)), (1001, .sl 59 3 (esC (lessF l j)))] rfl rfl rfl ⟨rfl, rfl⟩
        | (exfalso; omega)
    · have e : dropOkF n l k = false := by unfold dropOkF; rw [hg, decide_eq_false hc]; rfl
      rw [e, if_neg Bool.false_ne_true, if_neg Bool.false_ne_true]
      rw [decide_eq_false (by rw [hn]; exact hc)] at h2
      refine Spec.of_wpx tt_ok Try.func6 (by kernel_rfl) rfl ?_
      (repeat' ((conv => whnf); first | refine CondVC.t ?_ | refine CondVC.f ?_ | refine CondVC.dec (fun h => ?_) (fun h => ?_) | refine CondVC.ndec (fun h => ?_) (fun h => ?_) | refine CondVC.mk (fun h => ?_) (fun h => ?_) | refine ArVC.i64 (by first | omega | (simp only; omega)) ?_ | refine SideVC.mk (by first | omega | decide | (simp only; omega) | (simp [slS]; done) | (simp [slS]; omega) | (simp only [byteE_len, mvE_len, strE_len, intE_len, esC_len, List.length_cons, List.length_nil, List.length_append, List.length_replicate, List.length_set, Int.toNat_natCast, and_true] at *; omega)) ?_ | refine LoopN.go ?_ | exact trivial | refine AltVC.mk ?_ ?_ | refine HeldVC.mk rfl ?_ | refine CallVC.res [1000] rfl h1 rfl ?_ | refine CallVC.pure h2 rfl ?_ | refine OpVC.more tt_ok ?_ | refine RestVC.ext tt_ok ?_)); all_goals (conv => whnf)
      all_goals exact RetVC.nil 1001 59 3 [.agg [.int .i64 0, .sl 1001], vb false] [(1000, .sl 59 3 (esC l)), (4, .box 28 [.int .i64 0, .val (.slice none 0 0)]), (2, .box 28 [.int .i64 n, .sl 1000])] rfl rfl rfl (RetVC.res rfl rfl)
theorem implDropClue_spec (n : Int) (l : List Cl) (k : Int) (hl : l.length ≤ 2000000) : Spec Try.prog 8 [.agg [.int .i64 n, .sl 1000], i64 k] [(1000, .sl 59 3 (esC l))]
    (isRes [.agg [.int .i64 (dropNF n l k), .sl 1001], vb (dropOkF n l k)] [(1000, .sl 59 3 (esC l)), (1001, .sl 59 3 (esC (dropLF n l k)))]) := by
  have h1 := implIsPuzzle_spec n l hl
  have hn := esC_len l
  unfold dropNF dropLF
  cases hg : goodF n l with
  | false =>
    have e : dropOkF n l k = false := by simp [dropOkF, hg]
    rw [e, if_neg Bool.false_ne_true, if_neg Bool.false_ne_true]
    rw [hg] at h1
    refine Spec.of_wpx tt_ok Try.func8 (by kernel_rfl) rfl ?_
    (repeat' ((conv => whnf); first | refine CondVC.t ?_ | refine CondVC.f ?_ | refine CondVC.dec (fun h => ?_) (fun h => ?_) | refine CondVC.ndec (fun h => ?_) (fun h => ?_) | refine CondVC.mk (fun h => ?_) (fun h => ?_) | refine ArVC.i64 (by first | omega | (simp only; omega)) ?_ | refine SideVC.mk (by first | omega | decide | (simp only; omega) | (simp [slS]; done) | (simp [slS]; omega) | (simp only [byteE_len, mvE_len, strE_len, intE_len, esC_len, List.length_cons, List.length_nil, List.length_append, List.length_replicate, List.length_set, Int.toNat_natCast, and_true] at *; omega)) ?_ | refine LoopN.go ?_ | exact trivial | refine AltVC.mk ?_ ?_ | refine HeldVC.mk rfl ?_ | refine CallVC.res [1000] rfl h1 rfl ?_ | refine OpVC.more tt_ok ?_ | refine RestVC.ext tt_ok ?_)); all_goals (conv => whnf)
    all_goals exact RetVC.nil 1001 59 3 [.agg [.int .i64 0, .sl 1001], vb false] [(1000, .sl 59 3 (esC l)), (4, .box 28 [.int .i64 0, .val (.slice none 0 0)]), (2, .box 28 [.int .i64 n, .sl 1000])] rfl rfl rfl (RetVC.res rfl rfl)
  | true =>
    rw [hg] at h1
    obtain ⟨hnn, hll⟩ := good_n hg
    have h2 := within_spec k 0 ((l.length : Int) - 1)
    rw [← hn] at h2
    by_cases hc : 0 ≤ k ∧ k ≤ (l.length : Int) - 1
    · have e : dropOkF n l k = true := by unfold dropOkF; rw [hg, decide_eq_true hc]; rfl
      rw [e, if_pos rfl, if_pos rfl]
      rw [decide_eq_true (by rw [hn]; exact hc)] at h2
      obtain ⟨j, rfl⟩ := Int.eq_ofNat_of_zero_le hc.1
      have h3 := Spec.ren [(1001, 2001)] [(2001, 1001)] (without_spec l j (by omega) (by omega)) rfl rfl rfl
      refine Spec.of_wpx tt_ok Try.func8 (by kernel_rfl) rfl ?_
      (repeat' ((conv => whnf); first | refine CondVC.t ?_ | refine CondVC.f ?_ | refine CondVC.dec (fun h => ?_) (fun h => ?_) | refine CondVC.ndec (fun h => ?_) (fun h => ?_) | refine CondVC.mk (fun h => ?_) (fun h => ?_) | refine ArVC.i64 (by first | omega | (simp only; omega)) ?_ | refine SideVC.mk (by first | omega | decide | (simp only; omega) | (simp [slS]; done) | (simp [slS]; omega) | (simp only [byteE_len, mvE_len, strE_len, intE_len, esC_len, List.length_cons, List.length_nil, List.length_append, List.length_replicate, List.length_set, Int.toNat_natCast, and_true] at *; omega)) ?_ | refine LoopN.go ?_ | exact trivial | refine AltVC.mk ?_ ?_ | refine HeldVC.mk rfl ?_ | refine CallVC.res [1000] rfl h1 rfl ?_ | refine CallVC.pure h2 rfl ?_ | refine CallVC.res [1000] rfl h3 rfl ?_ | refine DrawVC.tree (id := 3) tt_ok [2, 1000] tr8_3 (by kernel_rfl) (by kernel_rfl) rfl ?_ | refine DrawVC.tree (id := 3) tt_ok [2] tr8_3 (by kernel_rfl) (by kernel_rfl) rfl ?_ | refine OpVC.more tt_ok ?_ | refine RestVC.ext tt_ok ?_)); all_goals (conv => whnf)
      all_goals first
        | exact RetVC.ren [(1001, 2001)] [.agg [.int .i64 n, .sl 1001], vb true] [(1000, .sl 59 3 (esC l)), (1001, .sl 59 3 (esC (lessF l j)))] rfl rfl rfl ⟨rfl, rfl⟩
        | (exfalso; omega)
    · have e : dropOkF n l k = false := by unfold dropOkF; rw [hg, decide_eq_false hc]; rfl
      rw [e, if_neg Bool.false_ne_true, if_neg Bool.false_ne_true]
      rw [decide_eq_false (by rw [hn]; exact hc)] at h2
      refine Spec.of_wpx tt_ok Try.func8 (by kernel_rfl) rfl ?_
      (repeat' ((conv => whnf); first | refine CondVC.t ?_ | refine CondVC.f ?_ | refine CondVC.dec (fun h => ?_) (fun h => ?_) | refine CondVC.ndec (fun h => ?_) (fun h => ?_) | refine CondVC.mk (fun h => ?_) (fun h => ?_) | refine ArVC.i64 (by first | omega | (simp only; omega)) ?_ | refine SideVC.mk (by first | omega | decide | (simp only; omega) | (simp [slS]; done) | (simp [slS]; omega) | (simp only [byteE_len, mvE_len, strE_len, intE_len, esC_len, List.length_cons, List.length_nil, List.length_append, List.length_replicate, List.length_set, Int.toNat_natCast, and_true] at *; omega)) ?_ | refine LoopN.go ?_ | exact trivial | refine AltVC.mk ?_ ?_ | refine HeldVC.mk rfl ?_ | refine CallVC.res [1000] rfl h1 rfl ?_ | refine CallVC.pure h2 rfl ?_ | refine OpVC.more tt_ok ?_ | refine RestVC.ext tt_ok ?_)); all_goals (conv => whnf)
      all_goals exact RetVC.nil 1001 59 3 [.agg [.int .i64 0, .sl 1001], vb false] [(1000, .sl 59 3 (esC l)), (4, .box 28 [.int .i64 0, .val (.slice none 0 0)]), (2, .box 28 [.int .i64 n, .sl 1000])] rfl rfl rfl (RetVC.res rfl rfl)

set_option maxHeartbeats 1000000 in
theorem lawDropClue_spec (o : Obj) (n : Int) (l : List Cl) (k : Int) (hl : l.length ≤ 9223372036854775807) : Spec Try.prog 3 [.agg [.int .i64 n, .sl 1000], i64 k] [(1000, .ro o 62 3 (esC l))]
    (isRes [vb true] [(1000, .ro o 62 3 (esC l))]) := by
  refine Spec.of_wpx tt_ok Try.func3 (by kernel_rfl) rfl ?_
  by_cases hb : l.length ≤ 1048576
  · have hsz := szPuzzle_spec o n l 1048576 hl (by omega)
    have hto := toPuzzle_spec o n l hb
    have h1 := specDropClue_spec n l k
    have h2 := implDropClue_spec n l k (by omega)
    have hl2 := dropLF_len n l k
    have heq0 := eqPuzzle_self n l (by omega)
    have heq1 := eqPuzzle_self (dropNF n l k) (dropLF n l k) (by omega)
    have hm0 := markPuzzle_spec n l (by omega)
    have hm1 := markPuzzle_spec (dropNF n l k) (dropLF n l k) (by omega)
    have hh1 := heldPuzzle_spec (dropNF n l k) (dropLF n l k).length (by omega)
    generalize dropNF n l k = n2 at *
    generalize dropLF n l k = l2 at *
    generalize dropOkF n l k = b at *
    generalize szF l.length 1048576 = left at *
    cases b with
    | true =>
      (repeat' ((conv => whnf); first | refine CondVC.t ?_ | refine CondVC.f ?_ | refine CondVC.dec (fun h => ?_) (fun h => ?_) | refine CondVC.ndec (fun h => ?_) (fun h => ?_) | refine CondVC.mk (fun h => ?_) (fun h => ?_) | refine ArVC.i64 (by first | omega | (simp only; omega)) ?_ | refine SideVC.mk (by first | omega | decide | (simp only; omega) | (simp [slS]; done) | (simp [slS]; omega) | (simp only [byteE_len, mvE_len, strE_len, intE_len, esC_len, List.length_cons, List.length_nil, List.length_append, List.length_replicate, List.length_set, Int.toNat_natCast, and_true] at *; omega)) ?_ | refine LoopN.go ?_ | exact trivial | refine AltVC.mk ?_ ?_ | refine HeldVC.mk rfl ?_ | refine CallVC.res [1000] rfl hsz rfl ?_ | refine DrawVC.tree (id := 10) tt_ok [8, 2, 2002, 1000] tr3_10 (by kernel_rfl) (by kernel_rfl) rfl ?_ | refine CallVC.res [1000] rfl (Spec.ren [(1001, 2001)] [(2001, 1001)] hto rfl rfl rfl) rfl ?_ | refine CallVC.res [1000] rfl (Spec.ren [(1001, 2002)] [(2002, 1001)] hto rfl rfl rfl) rfl ?_ | refine CallVC.res [1000] rfl (Spec.ren [(1001, 2003)] [(2003, 1001)] hto rfl rfl rfl) rfl ?_ | refine CallVC.res [1000] rfl (Spec.ren [(1001, 2004)] [(2004, 1001)] hto rfl rfl rfl) rfl ?_ | refine CallVC.res [2001] rfl (Spec.ren [(1000, 2001), (1001, 2011)] [(2001, 1000), (2011, 1001)] h1 rfl rfl rfl) rfl ?_ | refine CallVC.res [2002] rfl (Spec.ren [(1000, 2002), (1001, 2012)] [(2002, 1000), (2012, 1001)] h2 rfl rfl rfl) rfl ?_ | refine CallVC.res [2004] rfl (Spec.ren [(1000, 2004), (1001, 2014)] [(2004, 1000), (2014, 1001)] h2 rfl rfl rfl) rfl ?_ | refine CallVC.res [2012, 2011] rfl (Spec.ren [(1000, 2012), (1001, 2011)] [(2012, 1000), (2011, 1001)] heq1 rfl rfl rfl) rfl ?_ | refine CallVC.res [2002, 2003] rfl (Spec.ren [(1000, 2002), (1001, 2003)] [(2002, 1000), (2003, 1001)] heq0 rfl rfl rfl) rfl ?_ | refine CallVC.res [2014, 2011] rfl (Spec.ren [(1000, 2014), (1001, 2011)] [(2014, 1000), (2011, 1001)] heq1 rfl rfl rfl) rfl ?_ | refine CallVC.res [2002] rfl (Spec.ren [(1000, 2002)] [(2002, 1000)] hm0 rfl rfl rfl) rfl ?_ | refine CallVC.res [2012] rfl (Spec.ren [(1000, 2012)] [(2012, 1000)] hm1 rfl rfl rfl) rfl ?_ | refine CallVC.res [2012] rfl (Spec.ren [(1000, 2012)] [(2012, 1000)] hh1 rfl rfl rfl) rfl ?_ | refine OpVC.more tt_ok ?_ | refine RestVC.ext tt_ok ?_)); all_goals (conv => whnf)
      all_goals first | exact RetVC.res rfl rfl | (exfalso; omega) | (exfalso; simp_all; done)
    | false =>
      (repeat' ((conv => whnf); first | refine CondVC.t ?_ | refine CondVC.f ?_ | refine CondVC.dec (fun h => ?_) (fun h => ?_) | refine CondVC.ndec (fun h => ?_) (fun h => ?_) | refine CondVC.mk (fun h => ?_) (fun h => ?_) | refine ArVC.i64 (by first | omega | (simp only; omega)) ?_ | refine SideVC.mk (by first | omega | decide | (simp only; omega) | (simp [slS]; done) | (simp [slS]; omega) | (simp only [byteE_len, mvE_len, strE_len, intE_len, esC_len, List.length_cons, List.length_nil, List.length_append, List.length_replicate, List.length_set, Int.toNat_natCast, and_true] at *; omega)) ?_ | refine LoopN.go ?_ | exact trivial | refine AltVC.mk ?_ ?_ | refine HeldVC.mk rfl ?_ | refine CallVC.res [1000] rfl hsz rfl ?_ | refine DrawVC.tree (id := 10) tt_ok [8, 2, 2002, 1000] tr3_10 (by kernel_rfl) (by kernel_rfl) rfl ?_ | refine CallVC.res [1000] rfl (Spec.ren [(1001, 2001)] [(2001, 1001)] hto rfl rfl rfl) rfl ?_ | refine CallVC.res [1000] rfl (Spec.ren [(1001, 2002)] [(2002, 1001)] hto rfl rfl rfl) rfl ?_ | refine CallVC.res [1000] rfl (Spec.ren [(1001, 2003)] [(2003, 1001)] hto rfl rfl rfl) rfl ?_ | refine CallVC.res [1000] rfl (Spec.ren [(1001, 2004)] [(2004, 1001)] hto rfl rfl rfl) rfl ?_ | refine CallVC.res [2001] rfl (Spec.ren [(1000, 2001), (1001, 2011)] [(2001, 1000), (2011, 1001)] h1 rfl rfl rfl) rfl ?_ | refine CallVC.res [2002] rfl (Spec.ren [(1000, 2002), (1001, 2012)] [(2002, 1000), (2012, 1001)] h2 rfl rfl rfl) rfl ?_ | refine CallVC.res [2004] rfl (Spec.ren [(1000, 2004), (1001, 2014)] [(2004, 1000), (2014, 1001)] h2 rfl rfl rfl) rfl ?_ | refine CallVC.res [2012, 2011] rfl (Spec.ren [(1000, 2012), (1001, 2011)] [(2012, 1000), (2011, 1001)] heq1 rfl rfl rfl) rfl ?_ | refine CallVC.res [2002, 2003] rfl (Spec.ren [(1000, 2002), (1001, 2003)] [(2002, 1000), (2003, 1001)] heq0 rfl rfl rfl) rfl ?_ | refine CallVC.res [2014, 2011] rfl (Spec.ren [(1000, 2014), (1001, 2011)] [(2014, 1000), (2011, 1001)] heq1 rfl rfl rfl) rfl ?_ | refine CallVC.res [2002] rfl (Spec.ren [(1000, 2002)] [(2002, 1000)] hm0 rfl rfl rfl) rfl ?_ | refine CallVC.res [2012] rfl (Spec.ren [(1000, 2012)] [(2012, 1000)] hm1 rfl rfl rfl) rfl ?_ | refine CallVC.res [2012] rfl (Spec.ren [(1000, 2012)] [(2012, 1000)] hh1 rfl rfl rfl) rfl ?_ | refine OpVC.more tt_ok ?_ | refine RestVC.ext tt_ok ?_)); all_goals (conv => whnf)
      all_goals first | exact RetVC.res rfl rfl | (exfalso; omega) | (exfalso; simp_all; done)
  · have hsz := szPuzzle_spec o n l 1048576 hl (by omega)
    have hneg : szF l.length 1048576 < 0 := by
      unfold szF; split <;> omega
    generalize szF l.length 1048576 = left at *
    (repeat' ((conv => whnf); first | refine CondVC.t ?_ | refine CondVC.f ?_ | refine CondVC.dec (fun h => ?_) (fun h => ?_) | refine CondVC.ndec (fun h => ?_) (fun h => ?_) | refine CondVC.mk (fun h => ?_) (fun h => ?_) | refine ArVC.i64 (by first | omega | (simp only; omega)) ?_ | refine SideVC.mk (by first | omega | decide | (simp only; omega) | (simp [slS]; done) | (simp [slS]; omega) | (simp only [byteE_len, mvE_len, strE_len, intE_len, esC_len, List.length_cons, List.length_nil, List.length_append, List.length_replicate, List.length_set, Int.toNat_natCast, and_true] at *; omega)) ?_ | refine LoopN.go ?_ | exact trivial | refine AltVC.mk ?_ ?_ | refine HeldVC.mk rfl ?_ | refine CallVC.res [1000] rfl hsz rfl ?_ | refine OpVC.more tt_ok ?_ | refine RestVC.ext tt_ok ?_)); all_goals (conv => whnf)
    all_goals first | exact RetVC.res rfl rfl | (exfalso; omega)
end Go.Proofs.Ytmfhfndokkhhdaa.X
