/- FnExactPuzzleText: the program's half and the law. No condition beyond the statement's. -/
import Derived.Test.YtaidpalamhmghaaDoorPt
namespace Go.Proofs.YtaidpalamhmghaaDoor.X
open Go.Proofs
set_option maxRecDepth 100000
set_option linter.unusedVariables false
set_option linter.unusedSimpArgs false
theorem text2_spec (n : Int) (l : List Cl) (hg : goodF n l = true) : Spec Tryd.prog 59 [.agg [.int .i64 n, .sl 1000]] [(1000, .sl 70 3 (esC l))] (isRes [.c (.str (pzT n l))] [(1000, .sl 70 3 (esC l))]) := by
  obtain ⟨hn, hl6⟩ := good_n hg
  have hall := good_all hg
  have hnl := esC_len l
  have h0 := itoa_spec n (by omega)
  have h0l := numT_len n
  have hjl := join_len8 l l.length
  rw [List.take_of_length_le (by simp)] at hjl
  have h5 := Spec.ren [(1000, 3001)] [(3001, 1000)] (join_spec (l.map clT) [44] (by omega) (by simp; omega)) rfl rfl rfl
  unfold pzT
  generalize numT n = N at *
  generalize Lib.join (l.map clT) [44] = J at *
  obtain ⟨M, hM⟩ : ∃ M, M = l.map clT := ⟨_, rfl⟩
  have hMl : M.length = l.length := by rw [hM]; simp
  have hMg : ∀ k (hk : k < l.length), strE (M.take (k + 1)) = strE (M.take k) ++ [[.str (numT l[k].1 ++ [46] ++ numT l[k].2.1 ++ [46] ++ numT l[k].2.2)]] := fun k hk => by
    rw [List.take_succ_eq_append_getElem (by omega), strE_append]
    subst hM
    rw [List.getElem_map]; rfl
  rw [← hM] at h5
  clear hM
  refine Spec.of_wpx tt_ok Tryd.func59 (by kernel_rfl) rfl ?_
  (repeat' ((conv => whnf); first | refine CondVC.t ?_ | refine CondVC.f ?_ | refine CondVC.dec (fun h => ?_) (fun h => ?_) | refine CondVC.ndec (fun h => ?_) (fun h => ?_) | refine CondVC.mk (fun h => ?_) (fun h => ?_) | refine ArVC.i64 (by first | omega | (simp only; omega)) ?_ | refine SideVC.mk (by first | omega | decide | (simp only; omega) | (simp [slS]; done) | (simp [slS]; omega) | (simp only [byteE_len, mvE_len, strE_len, intE_len, esC_len, List.length_cons, List.length_nil, List.length_append, List.length_replicate, List.length_set, Int.toNat_natCast, and_true] at *; omega)) ?_ | refine LoopN.go ?_ | exact trivial | refine AltVC.mk ?_ ?_ | refine HeldVC.mk rfl ?_ | refine OpVC.more tt_ok ?_ | refine RestVC.ext tt_ok ?_)); all_goals (conv => whnf)
  all_goals try (exfalso; omega)
  refine LoopVC.mk (G := Nat) (fun k => ⟨[(10, .v (i64 k)), (9, .v (i64 (l.length : Nat))), (8, .v (.c (.sl 1000))), (3, .v (.c (.sl 3001))), (1, .v (.c (.ptr 1 0)))], [(3001, .sl 9 1 (strE (M.take k))), (1, .box 24 [.int .i64 n, .sl 1000]), (1000, .sl 70 3 (esC l))]⟩)
    (fun k => k ≤ l.length) (fun k => l.length - k) 0 (Nat.zero_le _) (Sub.mk [(3001, 6)] _ ⟨rfl, by rw [← hnl]; rfl, rfl, rfl, rfl, trivial⟩ rfl rfl) ?_
  intro k hk
  have htl : (strE (M.take k)).length = k := by rw [strE_len, List.length_take]; omega
  by_cases hkl : k < l.length
  · have gk : (esC l)[(k : Int).toNat]? = some (clC l[k]) := by rw [Int.toNat_natCast]; exact get_esC hkl
    obtain ⟨r1, r2, r3⟩ := cl_nums hn (hall _ (List.getElem_mem hkl))
    have c1 := itoa_spec _ r1
    have c2 := itoa_spec _ r2
    have c3 := itoa_spec _ r3
    have b1 := numT_len l[k].1
    have b2 := numT_len l[k].2.1
    have b3 := numT_len l[k].2.2
    have hst := hMg k hkl
    generalize l[k] = c at *
    obtain ⟨ca, cb, cc⟩ := c
    generalize numT ca = ta at *
    generalize numT cb = tb at *
    generalize numT cc = tc at *
    (repeat' ((conv => whnf); first | refine CondVC.t ?_ | refine CondVC.f ?_ | refine CondVC.dec (fun h => ?_) (fun h => ?_) | refine CondVC.ndec (fun h => ?_) (fun h => ?_) | refine CondVC.mk (fun h => ?_) (fun h => ?_) | refine ArVC.i64 (by first | omega | (simp only; omega)) ?_ | refine SideVC.mk (by first | omega | decide | (simp only; omega) | (simp [slS]; done) | (simp [slS]; omega) | (simp only [byteE_len, mvE_len, strE_len, intE_len, esC_len, List.length_cons, List.length_nil, List.length_append, List.length_replicate, List.length_set, Int.toNat_natCast, and_true] at *; omega)) ?_ | refine LoopN.go ?_ | exact trivial | refine AltVC.mk ?_ ?_ | refine HeldVC.mk rfl ?_ | refine LoadVC.mk _ gk ?_ | refine SideVC.mk (by rw [hnl]; omega) ?_ | refine CallVC.pure c1 rfl ?_ | refine CallVC.pure c2 rfl ?_ | refine CallVC.pure c3 rfl ?_ | refine SideVC.mk (by simp only [htl, List.length_append, List.length_cons, List.length_nil]; omega) ?_ | refine DrawVC.tree (id := 5) tt_ok [5] tr59_5 (by kernel_rfl) (by kernel_rfl) rfl ?_ | refine OpVC.more tt_ok ?_ | refine RestVC.ext tt_ok ?_)); all_goals (conv => whnf)
    all_goals first
      | (exfalso; omega)
      | exact ⟨k + 1, hkl, by omega, Sub.mk [(3001, 29)] _ ⟨rfl, rfl, rfl, rfl, rfl, trivial⟩ (by simp only [hst]; rfl) rfl⟩
  · have e : M.take k = M := List.take_of_length_le (by omega)
    rw [e]
    (repeat' ((conv => whnf); first | refine CondVC.t ?_ | refine CondVC.f ?_ | refine CondVC.dec (fun h => ?_) (fun h => ?_) | refine CondVC.ndec (fun h => ?_) (fun h => ?_) | refine CondVC.mk (fun h => ?_) (fun h => ?_) | refine ArVC.i64 (by first | omega | (simp only; omega)) ?_ | refine SideVC.mk (by first | omega | decide | (simp only; omega) | (simp [slS]; done) | (simp [slS]; omega) | (simp only [byteE_len, mvE_len, strE_len, intE_len, esC_len, List.length_cons, List.length_nil, List.length_append, List.length_replicate, List.length_set, Int.toNat_natCast, and_true] at *; omega)) ?_ | refine LoopN.go ?_ | exact trivial | refine AltVC.mk ?_ ?_ | refine HeldVC.mk rfl ?_ | refine CallVC.pure h0 rfl ?_ | refine CallVC.res [3001] rfl h5 rfl ?_ | refine SideVC.mk (by simp only [List.length_append, List.length_cons, List.length_nil]; omega) ?_ | refine OpVC.more tt_ok ?_ | refine RestVC.ext tt_ok ?_)); all_goals (conv => whnf)
    all_goals first
      | (exfalso; omega)
      | exact RetVC.res rfl rfl
def ptF (n : Int) (l : List Cl) : Tx := if goodF n l then pzT n l else []
end Go.Proofs.YtaidpalamhmghaaDoor.X
