/- Counts of plays, layer by layer: the reference's. No condition beyond each statement's. -/
import Derived.Test.YtblihaicbhdbdaaDoorCountF
import Derived.Test.YtblihaicbhdbdaaDoorLayers
namespace Go.Proofs.YtblihaicbhdbdaaDoor.X
open Go.Proofs
set_option maxRecDepth 100000
set_option linter.unusedVariables false
set_option linter.unusedSimpArgs false

def wn (n : Nat) : List C := [.int .i64 (IntKind.i64.wrap (n : Int))]
def cntE (c : Tx → Nat) (ks : List Tx) : List (List C) := ks.map fun v => wn (c v)
theorem cntE_len (c : Tx → Nat) (ks : List Tx) : (cntE c ks).length = ks.length := by simp [cntE]
theorem cntE_get {c : Tx → Nat} {ks : List Tx} {i : Nat} (h : i < ks.length) : (cntE c ks)[i]? = some (wn (c ks[i])) := by unfold cntE; rw [List.getElem?_map, List.getElem?_eq_getElem h]; rfl
/-- Some counts new, the others old. -/
def mixE (c c' : Tx → Nat) (ls : List Tx) (k : Nat) : List (List C) := cntE c' (ls.take k) ++ cntE c (ls.drop k)
theorem mixE_len {c c' : Tx → Nat} {ls : List Tx} {k : Nat} : (mixE c c' ls k).length = ls.length := by
  unfold mixE; rw [List.length_append, cntE_len, cntE_len, List.length_take, List.length_drop]; omega
theorem mixE_zero (c c' : Tx → Nat) (ls : List Tx) : mixE c c' ls 0 = cntE c ls := by simp [mixE, cntE]
theorem mixE_end {c c' : Tx → Nat} {ls : List Tx} {k : Nat} (h : ls.length ≤ k) : mixE c c' ls k = cntE c' ls := by
  unfold mixE; rw [List.take_of_length_le h, List.drop_eq_nil_of_le h]; simp [cntE]
theorem mixE_get {c c' : Tx → Nat} {ls : List Tx} {k : Nat} (h : k < ls.length) : (mixE c c' ls k)[k]? = some (wn (c ls[k])) := by
  unfold mixE
  rw [List.getElem?_append_right (by rw [cntE_len, List.length_take]; omega), cntE_len, List.length_take, Nat.min_eq_left (by omega), Nat.sub_self]
  have := cntE_get (c := c) (ks := ls.drop k) (i := 0) (by rw [List.length_drop]; omega)
  rw [this, List.getElem_drop]; rfl
theorem mixE_set {c c' : Tx → Nat} {ls : List Tx} {k : Nat} (h : k < ls.length) : (mixE c c' ls k).set k (wn (c' ls[k])) = mixE c c' ls (k + 1) := by
  unfold mixE
  rw [List.set_append_right _ _ (by rw [cntE_len, List.length_take]; omega), cntE_len, List.length_take, Nat.min_eq_left (by omega), Nat.sub_self, List.drop_eq_getElem_cons h, List.take_succ_eq_append_getElem h]
  unfold cntE
  rw [List.map_append, List.map_cons, List.set_cons_zero, List.append_assoc]
  rfl
theorem mixE_same {c c' : Tx → Nat} {ls : List Tx} {k : Nat} (h : k < ls.length) (e : c' ls[k] = c ls[k]) : mixE c c' ls k = mixE c c' ls (k + 1) := by
  unfold mixE
  rw [List.drop_eq_getElem_cons h, List.take_succ_eq_append_getElem h]
  unfold cntE
  rw [List.map_append, List.map_cons, List.append_assoc, ← e]
  rfl
theorem cntE_nought (ls : List Tx) (ks : List Tx) (c : Tx → Nat) : List.replicate ((ls.length : Int)).toNat [C.int .i64 0] = cntE (sumI c ks 0) ls := by
  rw [Int.toNat_natCast]
  induction ls with
  | nil => rfl
  | cons a l ih => rw [List.length_cons, List.replicate_succ, ih]; rfl

theorem reCounts_spec (ks ls : List Tx) (c : Tx → Nat) (hks : ks.length ≤ 4398046511104) (hls : ls.length ≤ 4398046511104) (hok : ∀ v ∈ ks, v.all okCh = true ∧ v.length ≤ 14) :
    Spec Tryd.prog 44 [.c (.sl 1000), .c (.sl 1001), .c (.sl 1002)] [(1000, .sl 9 1 (strE ks)), (1001, .sl 3 1 (cntE c ks)), (1002, .sl 9 1 (strE ls))]
    (isRes [.c (.sl 1003)] [(1000, .sl 9 1 (strE ks)), (1001, .sl 3 1 (cntE c ks)), (1002, .sl 9 1 (strE ls)), (1003, .sl 3 1 (cntE (sumI c ks ks.length) ls))]) := by
  have hlk := strE_len ks
  have hll := strE_len ls
  have hcl := cntE_len c ks
  have h0 := cntE_nought ls ks c
  refine Spec.of_wpx tt_ok Tryd.func44 (by kernel_rfl) rfl ?_
  (repeat' ((conv => whnf); first | refine CondVC.t ?_ | refine CondVC.f ?_ | refine CondVC.dec (fun h => ?_) (fun h => ?_) | refine CondVC.ndec (fun h => ?_) (fun h => ?_) | refine CondVC.mk (fun h => ?_) (fun h => ?_) | refine ArVC.i64 (by first | omega | (simp only; omega)) ?_ | refine SideVC.mk (by first | omega | decide | (simp only; omega) | (simp [slS]; done) | (simp [slS]; omega) | (simp only [byteE_len, mvE_len, strE_len, intE_len, esC_len, List.length_cons, List.length_nil, List.length_append, List.length_replicate, List.length_set, Int.toNat_natCast, and_true] at *; omega)) ?_ | refine LoopN.go ?_ | exact trivial | refine AltVC.mk ?_ ?_ | refine HeldVC.mk rfl ?_ | refine SideVC.mk (by simp only [hll]; omega) ?_ | refine OpVC.more tt_ok ?_ | refine RestVC.ext tt_ok ?_)); all_goals (conv => whnf)
  refine LoopVC.mk (G := Nat) (fun i => ⟨[(20, .v (i64 i)), (19, .v (i64 ks.length)), (18, .v (.c (.sl 1000))), (7, .v (.c (.sl 17))), (2, .v (.c (.sl 1002))), (1, .v (.c (.sl 1001)))],
      [(1000, .sl 9 1 (strE ks)), (1001, .sl 3 1 (cntE c ks)), (1002, .sl 9 1 (strE ls)), (17, .sl 3 1 (cntE (sumI c ks i) ls))]⟩)
    (fun i => i ≤ ks.length) (fun i => ks.length - i) 0 (Nat.zero_le _) (Sub.mk [] _ ⟨rfl, by rw [hlk]; rfl, rfl, rfl, rfl, rfl, trivial⟩ (by rw [← h0, hll]; rfl) rfl) ?_
  intro i hi
  by_cases hil : i < ks.length
  · have gi : (strE ks)[(i : Int).toNat]? = some [.str ks[i]] := by rw [Int.toNat_natCast]; exact strE_get hil
    have gc : (cntE c ks)[(i : Int).toNat]? = some (wn (c ks[i])) := by rw [Int.toNat_natCast]; exact cntE_get hil
    obtain ⟨ho, hl14⟩ := hok _ (List.getElem_mem hil)
    have hend := fun j hj => funext (sumJ_end (c := c) hil (j := j) hj)
    have hz : sumJ c ks i ks[i] 0 = sumI c ks i := funext fun x => sumJ_zero c ks i ks[i] x
    have hhit : ∀ j (hj : j < (succF ks[i]).length) x, x = (succF ks[i])[j] → sumJ c ks i ks[i] (j + 1) x = sumJ c ks i ks[i] j x + c ks[i] := fun j hj x e => sumJ_hit hj e
    have hmiss : ∀ j (hj : j < (succF ks[i]).length) x, x ≠ (succF ks[i])[j] → sumJ c ks i ks[i] (j + 1) x = sumJ c ks i ks[i] j x := fun j hj x e => sumJ_miss hj e
    rw [← hz]
    generalize sumJ c ks i ks[i] = sj at *
    generalize hs1 : sumI c ks (i + 1) = s1 at *
    generalize hcv : c ks[i] = cv at *
    generalize ks[i] = v at *
    have hm := Spec.ren [(1001, 2001)] [(2001, 1001)] (liMoves_spec v true true ho (by omega)) rfl rfl rfl
    rw [liMoves_eq ho, show kindsF true true = both from rfl] at hm
    have hml := movesF_len v both
    have hsl : (succF v).length = (movesF v both).length := by unfold succF; rw [List.length_map]
    have hsg : ∀ j (hj : j < (movesF v both).length), (succF v)[j]'(by rw [hsl]; exact hj) = madeF v (movesF v both)[j] := fun j hj => by unfold succF; rw [List.getElem_map]
    have hin : ∀ m ∈ movesF v both, _ := fun m hm => movesF_in hm
    have hmvl := mvE_len (movesF v both)
    (repeat' ((conv => whnf); first | refine CondVC.t ?_ | refine CondVC.f ?_ | refine CondVC.dec (fun h => ?_) (fun h => ?_) | refine CondVC.ndec (fun h => ?_) (fun h => ?_) | refine CondVC.mk (fun h => ?_) (fun h => ?_) | refine ArVC.i64 (by first | omega | (simp only; omega)) ?_ | refine SideVC.mk (by first | omega | decide | (simp only; omega) | (simp [slS]; done) | (simp [slS]; omega) | (simp only [byteE_len, mvE_len, strE_len, intE_len, esC_len, List.length_cons, List.length_nil, List.length_append, List.length_replicate, List.length_set, Int.toNat_natCast, and_true] at *; omega)) ?_ | refine LoopN.go ?_ | exact trivial | refine AltVC.mk ?_ ?_ | refine HeldVC.mk rfl ?_ | refine LoadVC.mk _ gi ?_ | refine SideVC.mk (by simp only [hlk]; omega) ?_ | refine CallVC.res [] rfl hm rfl ?_ | refine OpVC.more tt_ok ?_ | refine RestVC.ext tt_ok ?_)); all_goals (conv => whnf)
    all_goals try (exfalso; omega)
    generalize hl0 : movesF v both = l at *
    refine LoopVC.mk (G := Nat) (fun j => ⟨[(28, .v (i64 j)), (27, .v (i64 l.length)), (26, .v (.c (.sl 2001))), (9, .v (.c (.str v))), (8, .v (i64 i)), (20, .v (i64 i)), (19, .v (i64 ks.length)), (18, .v (.c (.sl 1000))), (7, .v (.c (.sl 17))), (2, .v (.c (.sl 1002))), (1, .v (.c (.sl 1001)))],
        [(2001, .sl 45 2 (mvE l)), (1000, .sl 9 1 (strE ks)), (1001, .sl 3 1 (cntE c ks)), (1002, .sl 9 1 (strE ls)), (17, .sl 3 1 (cntE (sj j) ls))]⟩)
      (fun j => j ≤ l.length) (fun j => l.length - j) 0 (Nat.zero_le _) (Sub.mk [] _ ⟨rfl, by rw [hmvl]; rfl, rfl, rfl, rfl, rfl, rfl, rfl, rfl, rfl, rfl, trivial⟩ rfl rfl) ?_
    intro j hj
    by_cases hjl : j < l.length
    · have gj : (mvE l)[(j : Int).toNat]? = some (mvC l[j]) := by rw [Int.toNat_natCast]; exact mvE_get hjl
      obtain ⟨i1, i2, i3⟩ := hin _ (List.getElem_mem hjl)
      have h6 := liMake_spec v l[j] i1 i2 i3 (by omega)
      have hhit' : ∀ x, x = madeF v l[j] → sj (j + 1) x = sj j x + cv := fun x e => hhit j (by rw [hsl]; exact hjl) x (by rw [hsg j hjl]; exact e)
      have hmiss' : ∀ x, x ≠ madeF v l[j] → sj (j + 1) x = sj j x := fun x e => hmiss j (by rw [hsl]; exact hjl) x (by rw [hsg j hjl]; exact e)
      generalize madeF v l[j] = u at *
      generalize l[j] = m at *
      generalize hca : sj j = ca at *
      generalize hcb : sj (j + 1) = cb at *
      (repeat' ((conv => whnf); first | refine CondVC.t ?_ | refine CondVC.f ?_ | refine CondVC.dec (fun h => ?_) (fun h => ?_) | refine CondVC.ndec (fun h => ?_) (fun h => ?_) | refine CondVC.mk (fun h => ?_) (fun h => ?_) | refine ArVC.i64 (by first | omega | (simp only; omega)) ?_ | refine SideVC.mk (by first | omega | decide | (simp only; omega) | (simp [slS]; done) | (simp [slS]; omega) | (simp only [byteE_len, mvE_len, strE_len, intE_len, esC_len, List.length_cons, List.length_nil, List.length_append, List.length_replicate, List.length_set, Int.toNat_natCast, and_true] at *; omega)) ?_ | refine LoopN.go ?_ | exact trivial | refine AltVC.mk ?_ ?_ | refine HeldVC.mk rfl ?_ | refine LoadVC.mk _ gj ?_ | refine SideVC.mk (by rw [hmvl]; omega) ?_ | refine CallVC.pure h6 rfl ?_ | refine OpVC.more tt_ok ?_ | refine RestVC.ext tt_ok ?_)); all_goals (conv => whnf)
      all_goals try (exfalso; omega)
      refine LoopVC.mk (G := Nat) (fun k => ⟨[(37, .v (i64 k)), (36, .v (i64 ls.length)), (35, .v (.c (.sl 1002))), (12, .v (.c (.str u))), (28, .v (i64 j)), (27, .v (i64 l.length)), (26, .v (.c (.sl 2001))), (9, .v (.c (.str v))), (8, .v (i64 i)), (20, .v (i64 i)), (19, .v (i64 ks.length)), (18, .v (.c (.sl 1000))), (7, .v (.c (.sl 17))), (2, .v (.c (.sl 1002))), (1, .v (.c (.sl 1001)))],
          [(2001, .sl 45 2 (mvE l)), (1000, .sl 9 1 (strE ks)), (1001, .sl 3 1 (cntE c ks)), (1002, .sl 9 1 (strE ls)), (17, .sl 3 1 (mixE ca cb ls k))]⟩)
        (fun k => k ≤ ls.length) (fun k => ls.length - k) 0 (Nat.zero_le _) (Sub.mk [] _ ⟨rfl, by rw [hll]; rfl, rfl, rfl, rfl, rfl, rfl, rfl, rfl, rfl, rfl, rfl, rfl, rfl, rfl, trivial⟩ (by rw [mixE_zero]; rfl) rfl) ?_
      intro k hk
      have hml2 := mixE_len (c := ca) (c' := cb) (ls := ls) (k := k)
      by_cases hkl : k < ls.length
      · have gk : (strE ls)[(k : Int).toNat]? = some [.str ls[k]] := by rw [Int.toNat_natCast]; exact strE_get hkl
        have gm : (mixE ca cb ls k)[(k : Int).toNat]? = some (wn (ca ls[k])) := by rw [Int.toNat_natCast]; exact mixE_get hkl
        have hset := mixE_set (c := ca) (c' := cb) hkl
        have hsame := mixE_same (c := ca) (c' := cb) hkl
        have hh := hhit' ls[k]
        have hmi := hmiss' ls[k]
        generalize hm1 : mixE ca cb ls (k + 1) = mx1 at *
        generalize mixE ca cb ls k = mx at *
        generalize hxx : ls[k] = x at *
        by_cases he : x = u
        · subst he
          have hh := hh rfl
          have hfin : mx.set (k : Int).toNat [C.int .i64 (IntKind.i64.wrap (IntKind.i64.wrap (ca x : Int) + IntKind.i64.wrap (cv : Int)))] = mx1 := by
            rw [Int.toNat_natCast, wrap_add, ← hset, hh]; rfl
          (repeat' ((conv => whnf); first | refine CondVC.t ?_ | refine CondVC.f ?_ | refine CondVC.dec (fun h => ?_) (fun h => ?_) | refine CondVC.ndec (fun h => ?_) (fun h => ?_) | refine CondVC.mk (fun h => ?_) (fun h => ?_) | refine ArVC.i64 (by first | omega | (simp only; omega)) ?_ | refine SideVC.mk (by first | omega | decide | (simp only; omega) | (simp [slS]; done) | (simp [slS]; omega) | (simp only [byteE_len, mvE_len, strE_len, intE_len, esC_len, List.length_cons, List.length_nil, List.length_append, List.length_replicate, List.length_set, Int.toNat_natCast, and_true] at *; omega)) ?_ | refine LoopN.go ?_ | exact trivial | refine AltVC.mk ?_ ?_ | refine HeldVC.mk rfl ?_ | refine LoadVC.mk _ gk ?_ | refine SideVC.mk (by simp only [hll, hlk, hcl, hml2]; omega) ?_ | refine DrawVC.tree tt_ok [1001] (.take 0 (.take 1 (.take 4 (.take 5 (.take 6 (.take 7 (.alt 2 (.alt 3 (.take 8 (.alt 9 (.alt 10 .done .no) .no)) .no) .no))))))) (by kernel_rfl) (by kernel_rfl) rfl ?_ | refine LoadVC.mk _ gm ?_ | refine LoadVC.mk _ gc ?_ | refine ArVC.wrap ?_ | refine OpVC.more tt_ok ?_ | refine RestVC.ext tt_ok ?_)); all_goals (conv => whnf)
          all_goals first
            | (exfalso; omega)
            | exact ⟨k + 1, by omega, by omega, Sub.mk [] _ ⟨rfl, rfl, rfl, rfl, rfl, rfl, rfl, rfl, rfl, rfl, rfl, rfl, rfl, rfl, rfl, trivial⟩ (by rw [hm1, ← hfin]; rfl) rfl⟩
            | (exfalso; contradiction)
        · have hsame := hsame (hmi he)
          (repeat' ((conv => whnf); first | refine CondVC.t ?_ | refine CondVC.f ?_ | refine CondVC.dec (fun h => ?_) (fun h => ?_) | refine CondVC.ndec (fun h => ?_) (fun h => ?_) | refine CondVC.mk (fun h => ?_) (fun h => ?_) | refine ArVC.i64 (by first | omega | (simp only; omega)) ?_ | refine SideVC.mk (by first | omega | decide | (simp only; omega) | (simp [slS]; done) | (simp [slS]; omega) | (simp only [byteE_len, mvE_len, strE_len, intE_len, esC_len, List.length_cons, List.length_nil, List.length_append, List.length_replicate, List.length_set, Int.toNat_natCast, and_true] at *; omega)) ?_ | refine LoopN.go ?_ | exact trivial | refine AltVC.mk ?_ ?_ | refine HeldVC.mk rfl ?_ | refine LoadVC.mk _ gk ?_ | refine SideVC.mk (by simp only [hll, hlk, hcl, hml2]; omega) ?_ | refine OpVC.more tt_ok ?_ | refine RestVC.ext tt_ok ?_)); all_goals (conv => whnf)
          all_goals first
            | (exfalso; omega)
            | exact ⟨k + 1, by omega, by omega, Sub.mk [] _ ⟨rfl, rfl, rfl, rfl, rfl, rfl, rfl, rfl, rfl, rfl, rfl, rfl, rfl, rfl, rfl, trivial⟩ (by rw [hm1, ← hsame]; rfl) rfl⟩
            | (exfalso; simp_all; done)
      · have hfin := mixE_end (c := ca) (c' := cb) (ls := ls) (k := k) (by omega)
        (repeat' ((conv => whnf); first | refine CondVC.t ?_ | refine CondVC.f ?_ | refine CondVC.dec (fun h => ?_) (fun h => ?_) | refine CondVC.ndec (fun h => ?_) (fun h => ?_) | refine CondVC.mk (fun h => ?_) (fun h => ?_) | refine ArVC.i64 (by first | omega | (simp only; omega)) ?_ | refine SideVC.mk (by first | omega | decide | (simp only; omega) | (simp [slS]; done) | (simp [slS]; omega) | (simp only [byteE_len, mvE_len, strE_len, intE_len, esC_len, List.length_cons, List.length_nil, List.length_append, List.length_replicate, List.length_set, Int.toNat_natCast, and_true] at *; omega)) ?_ | refine LoopN.go ?_ | exact trivial | refine AltVC.mk ?_ ?_ | refine HeldVC.mk rfl ?_ | refine OpVC.more tt_ok ?_ | refine RestVC.ext tt_ok ?_)); all_goals (conv => whnf)
        all_goals first
          | (exfalso; omega)
          | exact ⟨j + 1, by omega, by omega, Sub.mk [] _ ⟨rfl, rfl, rfl, rfl, rfl, rfl, rfl, rfl, rfl, rfl, rfl, trivial⟩ (by rw [hcb, ← hfin]; rfl) rfl⟩
    · have hfin := hend j (by rw [hsl]; omega)
      (repeat' ((conv => whnf); first | refine CondVC.t ?_ | refine CondVC.f ?_ | refine CondVC.dec (fun h => ?_) (fun h => ?_) | refine CondVC.ndec (fun h => ?_) (fun h => ?_) | refine CondVC.mk (fun h => ?_) (fun h => ?_) | refine ArVC.i64 (by first | omega | (simp only; omega)) ?_ | refine SideVC.mk (by first | omega | decide | (simp only; omega) | (simp [slS]; done) | (simp [slS]; omega) | (simp only [byteE_len, mvE_len, strE_len, intE_len, esC_len, List.length_cons, List.length_nil, List.length_append, List.length_replicate, List.length_set, Int.toNat_natCast, and_true] at *; omega)) ?_ | refine LoopN.go ?_ | exact trivial | refine AltVC.mk ?_ ?_ | refine HeldVC.mk rfl ?_ | refine OpVC.more tt_ok ?_ | refine RestVC.ext tt_ok ?_)); all_goals (conv => whnf)
      all_goals first
        | (exfalso; omega)
        | exact ⟨i + 1, by omega, by omega, Sub.mk [] _ ⟨rfl, rfl, rfl, rfl, rfl, rfl, trivial⟩ (by rw [hs1, ← hfin]; rfl) rfl⟩
  · (repeat' ((conv => whnf); first | refine CondVC.t ?_ | refine CondVC.f ?_ | refine CondVC.dec (fun h => ?_) (fun h => ?_) | refine CondVC.ndec (fun h => ?_) (fun h => ?_) | refine CondVC.mk (fun h => ?_) (fun h => ?_) | refine ArVC.i64 (by first | omega | (simp only; omega)) ?_ | refine SideVC.mk (by first | omega | decide | (simp only; omega) | (simp [slS]; done) | (simp [slS]; omega) | (simp only [byteE_len, mvE_len, strE_len, intE_len, esC_len, List.length_cons, List.length_nil, List.length_append, List.length_replicate, List.length_set, Int.toNat_natCast, and_true] at *; omega)) ?_ | refine LoopN.go ?_ | exact trivial | refine AltVC.mk ?_ ?_ | refine HeldVC.mk rfl ?_ | refine OpVC.more tt_ok ?_ | refine RestVC.ext tt_ok ?_)); all_goals (conv => whnf)
    all_goals first
      | (exfalso; omega)
      | (have e : i = ks.length := (by omega)
         subst e
         exact RetVC.ren [(1003, 17)] [.c (.sl 1003)] [(1000, .sl 9 1 (strE ks)), (1001, .sl 3 1 (cntE c ks)), (1002, .sl 9 1 (strE ls)), (1003, .sl 3 1 (cntE (sumI c ks ks.length) ls))] rfl rfl rfl ⟨rfl, rfl⟩)
end Go.Proofs.YtblihaicbhdbdaaDoor.X
