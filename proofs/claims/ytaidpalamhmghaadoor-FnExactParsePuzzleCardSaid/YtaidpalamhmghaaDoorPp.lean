/- impl.ParsePuzzle: what it returns, over whatever numbers Atoi hands back. No condition beyond each statement's. -/
import Derived.Test.YtaidpalamhmghaaDoorSeq
import Derived.Test.YtaidpalamhmghaaDoorPtL
import Derived.Test.YtaidpalamhmghaaDoorCallE
import Derived.Test.YtaidpalamhmghaaDoorAt
namespace Go.Proofs.YtaidpalamhmghaaDoor.X
open Go.Proofs Go.Shelf Go.RowKit
set_option maxRecDepth 100000
set_option linter.unusedVariables false
set_option linter.unusedSimpArgs false

/-- What Cut hands back. -/
def cutH (c : UInt8) (s : Tx) : Tx := if Lib.indexByte s c < 0 then s else s.take (Lib.indexByte s c).toNat
def cutR (c : UInt8) (s : Tx) : Tx := if Lib.indexByte s c < 0 then [] else s.drop ((Lib.indexByte s c).toNat + 1)

theorem index_spec1b (s : Tx) (b : UInt8) : Spec Tryd.prog 138 [.c (.str s), .c (.str [b])] [] (isRes [.c (.int .i64 (Lib.indexByte s b))] []) := by
  refine Spec.ofBelow ⟨_, Tryd.func138, by kernel_rfl, rfl⟩ rfl rfl fun w => ?_
  refine (Any.stringslite_Index_one { Tryd.lays143 with } ⟨s.toArray⟩ b w).mono ?_
  rintro e w' ⟨rfl, rfl⟩
  exact ⟨by simp [V.den, C.den, pk], Below.refl _ _⟩

theorem cut0_spec (s : Tx) (c : UInt8) (hs : s.length ≤ 1000000) : Spec Tryd.prog 104 [.c (.str s), .c (.str [c])] [] (isRes [.c (.str (cutH c s)), .c (.str (cutR c s)), vb (decide (0 ≤ Lib.indexByte s c))] []) := by
  have hx := index_spec1b s c
  unfold cutH cutR
  by_cases h : Lib.indexByte s c < 0
  · rw [if_pos h, if_pos h]
    generalize Lib.indexByte s c = z at *
    refine Spec.of_wpx tt_ok Tryd.func104 (by kernel_rfl) rfl ?_
    (repeat' ((conv => whnf); first | refine CondVC.t ?_ | refine CondVC.f ?_ | refine CondVC.dec (fun h => ?_) (fun h => ?_) | refine CondVC.ndec (fun h => ?_) (fun h => ?_) | refine CondVC.mk (fun h => ?_) (fun h => ?_) | refine ArVC.i64 (by first | omega | (simp only; omega)) ?_ | refine SideVC.mk (by first | omega | decide | (simp only; omega) | (simp [slS]; done) | (simp [slS]; omega) | (simp only [byteE_len, mvE_len, strE_len, intE_len, esC_len, List.length_cons, List.length_nil, List.length_append, List.length_replicate, List.length_set, Int.toNat_natCast, and_true] at *; omega)) ?_ | refine LoopN.go ?_ | exact trivial | refine AltVC.mk ?_ ?_ | refine HeldVC.mk rfl ?_ | refine CallVC.pure hx rfl ?_ | refine OpVC.more tt_ok ?_ | refine RestVC.ext tt_ok ?_)); all_goals (conv => whnf)
    all_goals first | (exfalso; omega) | exact RetVC.res (by simp [vb]; omega) rfl
  · obtain ⟨m, hm⟩ := Int.eq_ofNat_of_zero_le (show 0 ≤ Lib.indexByte s c by omega)
    obtain ⟨hml, _, _⟩ := cut_index hm
    rw [hm] at hx ⊢
    rw [if_neg (by omega), if_neg (by omega)]
    refine Spec.of_wpx tt_ok Tryd.func104 (by kernel_rfl) rfl ?_
    (repeat' ((conv => whnf); first | refine CondVC.t ?_ | refine CondVC.f ?_ | refine CondVC.dec (fun h => ?_) (fun h => ?_) | refine CondVC.ndec (fun h => ?_) (fun h => ?_) | refine CondVC.mk (fun h => ?_) (fun h => ?_) | refine ArVC.i64 (by first | omega | (simp only; omega)) ?_ | refine SideVC.mk (by first | omega | decide | (simp only; omega) | (simp [slS]; done) | (simp [slS]; omega) | (simp only [byteE_len, mvE_len, strE_len, intE_len, esC_len, List.length_cons, List.length_nil, List.length_append, List.length_replicate, List.length_set, Int.toNat_natCast, and_true] at *; omega)) ?_ | refine LoopN.go ?_ | exact trivial | refine AltVC.mk ?_ ?_ | refine HeldVC.mk rfl ?_ | refine CallVC.pure hx rfl ?_ | refine DrawVC.quiet tt_ok (by kernel_rfl) (by kernel_rfl) ?_ | refine ArVC.i64 (by simp only [List.length_cons, List.length_nil]; omega) ?_ | refine SideVC.mk (by first | omega | (simp only [List.length_cons, List.length_nil]; omega) | (simp; omega)) ?_ | refine OpVC.more tt_ok ?_ | refine RestVC.ext tt_ok ?_)); all_goals (conv => whnf)
    all_goals first | (exfalso; omega) | exact RetVC.res (by simp [vb, slS]) rfl

theorem cut_spec (s : Tx) (c : UInt8) (hs : s.length ≤ 1000000) : Spec Tryd.prog 55 [.c (.str s), .c (.str [c])] [] (isRes [.c (.str (cutH c s)), .c (.str (cutR c s)), vb (decide (0 ≤ Lib.indexByte s c))] []) := by
  have h := cut0_spec s c hs
  generalize cutH c s = u at *
  generalize cutR c s = v at *
  generalize decide (0 ≤ Lib.indexByte s c) = b at *
  refine Spec.of_wpx tt_ok Tryd.func55 (by kernel_rfl) rfl ?_
  (repeat' ((conv => whnf); first | refine CondVC.t ?_ | refine CondVC.f ?_ | refine CondVC.dec (fun h => ?_) (fun h => ?_) | refine CondVC.ndec (fun h => ?_) (fun h => ?_) | refine CondVC.mk (fun h => ?_) (fun h => ?_) | refine ArVC.i64 (by first | omega | (simp only; omega)) ?_ | refine SideVC.mk (by first | omega | decide | (simp only; omega) | (simp [slS]; done) | (simp [slS]; omega) | (simp only [byteE_len, mvE_len, strE_len, intE_len, esC_len, List.length_cons, List.length_nil, List.length_append, List.length_replicate, List.length_set, Int.toNat_natCast, and_true] at *; omega)) ?_ | refine LoopN.go ?_ | exact trivial | refine AltVC.mk ?_ ?_ | refine HeldVC.mk rfl ?_ | refine CallVC.pure h rfl ?_ | refine OpVC.more tt_ok ?_ | refine RestVC.ext tt_ok ?_)); all_goals (conv => whnf)
  all_goals exact RetVC.res rfl rfl

/-- A word's numbers make a clue where they are three. -/
def clW (f : Tx → Int) (w : Tx) : List Cl := match spl 46 w with
  | [a, b, c] => [(f a, f b, f c)]
  | _ => []
def clsW (f : Tx → Int) (l : List Tx) : List Cl := l.flatMap (clW f)
theorem clW_len (f : Tx → Int) (w : Tx) : (clW f w).length ≤ 1 := by unfold clW; split <;> simp
theorem clsW_len (f : Tx → Int) : ∀ l : List Tx, (clsW f l).length ≤ l.length
  | [] => Nat.le_refl _
  | w :: l => by
    have h1 := clW_len f w
    have h2 := clsW_len f l
    simp only [clsW, List.flatMap_cons, List.length_append, List.length_cons] at *
    omega
theorem clsW_snoc (f : Tx → Int) (l : List Tx) (i : Nat) (w : Tx) (h : l[i]? = some w) : clsW f (l.take (i + 1)) = clsW f (l.take i) ++ clW f w := by
  unfold clsW
  rw [List.take_add_one, h, List.flatMap_append]
  simp
def ppN (s : Tx) : Int := atoF (cutH 58 s)
def ppL (s : Tx) : List Cl := clsW atoF (spl 44 (cutR 58 s))
def okI (s : Tx) : Bool := decide (s.length ≤ 100) && (goodF (ppN s) (ppL s) && decide (pzT (ppN s) (ppL s) = s))

theorem spl_part (b : UInt8) : ∀ (s : Tx) (w : Tx), w ∈ spl b s → w.length ≤ s.length
  | [], w, h => by simp [spl] at h; subst h; simp
  | c :: r, w, h => by
    unfold spl at h
    split at h
    · rcases List.mem_cons.1 h with h | h
      · subst h; simp
      · have := spl_part b r w h; simp; omega
    · split at h
      · rename_i x xs e
        rcases List.mem_cons.1 h with h | h
        · subst h
          have := spl_part b r x (by rw [e]; simp)
          simp; omega
        · have := spl_part b r w (by rw [e]; simp [h]); simp; omega
      · simp at h; subst h; simp
theorem spl_many (b : UInt8) (s : Tx) : (spl b s).length ≤ s.length + 1 := by
  rw [spl_len]; have := List.count_le_length (a := b) (l := s); omega
theorem intE_snoc (l : List Int) (n : Int) : intE (l ++ [n]) = intE l ++ [[.int .i64 n]] := by simp [intE]

def trPp : Tr := .take 0 (.take 2 (.take 3 (.take 4 (.take 5 (.take 6 (.take 7 (.take 8 (.take 9 (.take 10 (.alt 1 (.alt 11 (.alt 12 (.alt 13 (.take 14 (.alt 15 .done .no)) .no) .no) .no) (.alt 11 (.alt 1 (.alt 12 (.alt 13 (.take 14 (.alt 15 .done .no)) .no) .no) (.alt 12 (.alt 1 (.alt 13 (.take 14 (.alt 15 .done .no)) .no) .no) .no)) .no)))))))))))

theorem implParse_spec {o1 o2 : Obj} (q1 : errO o1) (q2 : errO o2) (s : Tx) (hs : s.length ≤ 9223372036854775807) : Spec Tryd.prog 9 [.c (.str s)] [(1000, errR o1 o2)]
    (isRes [.agg [.int .i64 (if okI s then ppN s else 0), .sl 1001], vb (okI s)] [(1000, errR o1 o2), (1001, .sl 70 3 (esC (if okI s then ppL s else [])))]) := by
  by_cases hl : s.length ≤ 100
  · have h1 := cut_spec s 58 (by omega)
    have hH : (cutH 58 s).length ≤ 100 := by unfold cutH; split <;> (try simp only [List.length_take]) <;> omega
    have hR : (cutR 58 s).length ≤ 100 := by unfold cutR; split <;> (try simp only [List.length_drop, List.length_nil]) <;> omega
    have h2 := Spec.renE [] [] (atoi_spec q1 q2 (cutH 58 s) (by omega)) (fun _ => rfl) (fun _ => rfl) rfl
    have h3 := Spec.ren [(1001, 2101), (1002, 2102), (1003, 2103)] [(2101, 1001), (2102, 1002), (2103, 1003)] (splitSeq_spec (cutR 58 s) 44) rfl rfl rfl
    have e1 : ppN s = atoF (cutH 58 s) := rfl
    have e2 : ppL s = clsW atoF (spl 44 (cutR 58 s)) := rfl
    have i1 := split_iterOk (cutR 58 s) 44 (by omega) 2101 2102 2103
    generalize hok : okI s = ok at *
    generalize cutH 58 s = H at *
    generalize cutR 58 s = R at *
    refine Spec.of_wpxR tt_ok Tryd.func9 (by kernel_rfl) rfl (by kernel_rfl) ?_
    (repeat' ((conv => whnf); first | refine CondVC.t ?_ | refine CondVC.f ?_ | refine CondVC.dec (fun h => ?_) (fun h => ?_) | refine CondVC.ndec (fun h => ?_) (fun h => ?_) | refine CondVC.mk (fun h => ?_) (fun h => ?_) | refine ArVC.i64 (by first | omega | (simp only; omega)) ?_ | refine SideVC.mk (by first | omega | decide | (simp only; omega) | (simp [slS]; done) | (simp [slS]; omega) | (simp only [byteE_len, mvE_len, strE_len, intE_len, esC_len, List.length_cons, List.length_nil, List.length_append, List.length_replicate, List.length_set, Int.toNat_natCast, and_true] at *; omega)) ?_ | refine LoopN.go ?_ | exact trivial | refine AltVC.mk ?_ ?_ | refine HeldVC.mk rfl ?_ | refine CallVC.pure h1 rfl ?_ | refine CallVC.ex [1000] rfl h2 (fun u _ => ⟨rfl, ?_⟩) | refine CallVC.res [] rfl h3 rfl ?_ | refine OpVC.more tt_ok ?_ | refine RestVC.ext tt_ok ?_)); all_goals (conv => whnf)
    all_goals try (exfalso; omega)
    refine RngVC.str (spl 44 R) _ _ [(2101, .box 9 [.str [44]]), (2102, .box 9 [.str R]), (2103, .box 3 [.int .i64 0])] _
      (fun i => [(1000, errR o1 o2), (2, .box 24 [.int .i64 0, .val (.slice none 0 0)]), (9, .box 24 [.int .i64 (atoF H), .sl 3001]), (3001, .sl 70 3 (esC (clsW atoF ((spl 44 R).take i))))])
      _ rfl rfl rfl split_ok rfl i1 (MSubVC.mk [(3001, 31)] _ rfl rfl) ?_ (by simp only [List.take_length]; rfl) ?_
    · intro i w hw
      have hwl : w.length ≤ 100 := by have := spl_part 44 R w (List.mem_of_getElem? hw); omega
      have hll : (clsW atoF ((spl 44 R).take i)).length ≤ 200 := by
        have p1 := clsW_len atoF ((spl 44 R).take i)
        have p2 := spl_many 44 R
        rw [List.length_take] at p1
        omega
      rw [clsW_snoc atoF _ i w hw]
      generalize clsW atoF ((spl 44 R).take i) = l at *
      have h4 := Spec.ren [(1001, 2201), (1002, 2202), (1003, 2203)] [(2201, 1001), (2202, 1002), (2203, 1003)] (splitSeq_spec w 46) rfl rfl rfl
      have i2 := split_iterOk w 46 (by omega) 2201 2202 2203
      (repeat' ((conv => whnf); first | refine CondVC.t ?_ | refine CondVC.f ?_ | refine CondVC.dec (fun h => ?_) (fun h => ?_) | refine CondVC.ndec (fun h => ?_) (fun h => ?_) | refine CondVC.mk (fun h => ?_) (fun h => ?_) | refine ArVC.i64 (by first | omega | (simp only; omega)) ?_ | refine SideVC.mk (by first | omega | decide | (simp only; omega) | (simp [slS]; done) | (simp [slS]; omega) | (simp only [byteE_len, mvE_len, strE_len, intE_len, esC_len, List.length_cons, List.length_nil, List.length_append, List.length_replicate, List.length_set, Int.toNat_natCast, and_true] at *; omega)) ?_ | refine LoopN.go ?_ | exact trivial | refine AltVC.mk ?_ ?_ | refine HeldVC.mk rfl ?_ | refine CallVC.res [] rfl h4 rfl ?_ | refine OpVC.more tt_ok ?_ | refine RestVC.ext tt_ok ?_)); all_goals (conv => whnf)
      refine RngVC.str (spl 46 w) _ _ [(2201, .box 9 [.str [46]]), (2202, .box 9 [.str w]), (2203, .box 3 [.int .i64 0])] _
        (fun j => [(1000, errR o1 o2), (2, .box 24 [.int .i64 0, .val (.slice none 0 0)]), (9, .box 24 [.int .i64 (atoF H), .sl 3001]), (3001, .sl 70 3 (esC l)), (11, .box 68 [.sl 3002]), (3002, .sl 3 1 (intE (((spl 46 w).take j).map atoF)))])
        _ rfl rfl rfl split_ok rfl i2 (MSubVC.mk [(3002, 36)] _ rfl rfl) ?_ (by simp only [List.take_length]; rfl) ?_
      · intro j v hv
        have hvl : v.length ≤ 100 := by have := spl_part 46 w v (List.mem_of_getElem? hv); omega
        have h5 := Spec.renE [] [] (atoi_spec q1 q2 v (by omega)) (fun _ => rfl) (fun _ => rfl) rfl
        have hst : ((spl 46 w).take (j + 1)).map atoF = ((spl 46 w).take j).map atoF ++ [atoF v] := by rw [List.take_add_one, hv]; simp
        have hnl : (((spl 46 w).take j).map atoF).length ≤ 200 := by
          have := spl_many 46 w
          rw [List.length_map, List.length_take]; omega
        rw [hst, intE_snoc]
        generalize ((spl 46 w).take j).map atoF = nums at *
        (repeat' ((conv => whnf); first | refine CondVC.t ?_ | refine CondVC.f ?_ | refine CondVC.dec (fun h => ?_) (fun h => ?_) | refine CondVC.ndec (fun h => ?_) (fun h => ?_) | refine CondVC.mk (fun h => ?_) (fun h => ?_) | refine ArVC.i64 (by first | omega | (simp only; omega)) ?_ | refine SideVC.mk (by first | omega | decide | (simp only; omega) | (simp [slS]; done) | (simp [slS]; omega) | (simp only [byteE_len, mvE_len, strE_len, intE_len, esC_len, List.length_cons, List.length_nil, List.length_append, List.length_replicate, List.length_set, Int.toNat_natCast, and_true] at *; omega)) ?_ | refine LoopN.go ?_ | exact trivial | refine AltVC.mk ?_ ?_ | refine HeldVC.mk rfl ?_ | refine CallVC.ex [1000] rfl h5 (fun u _ => ⟨rfl, ?_⟩) | refine OpVC.more tt_ok ?_ | refine RestVC.ext tt_ok ?_)); all_goals (conv => whnf)
        all_goals exact MSubVC.mk [(3002, 48)] _ rfl rfl
      · have hnl : (intE ((spl 46 w).map atoF)).length = (spl 46 w).length := by simp [intE]
        have hcw : clW atoF w = (match (spl 46 w).map atoF with | [a, b, c] => [(a, b, c)] | _ => []) := by
          unfold clW
          cases spl 46 w with
          | nil => rfl
          | cons a l1 => cases l1 with
            | nil => rfl
            | cons b l2 => cases l2 with
              | nil => rfl
              | cons c l3 => cases l3 with
                | nil => rfl
                | cons => rfl
        have hnl2 : ((spl 46 w).map atoF).length = (spl 46 w).length := by simp
        have hml := spl_many 46 w
        rw [hcw]
        rw [← hnl2] at hml hnl
        generalize (spl 46 w).map atoF = nums at *
        match nums, hnl, hml with
        | [a, b, c], hnl, hml =>
          rw [esC_append]
          (repeat' ((conv => whnf); first | refine CondVC.t ?_ | refine CondVC.f ?_ | refine CondVC.dec (fun h => ?_) (fun h => ?_) | refine CondVC.ndec (fun h => ?_) (fun h => ?_) | refine CondVC.mk (fun h => ?_) (fun h => ?_) | refine ArVC.i64 (by first | omega | (simp only; omega)) ?_ | refine SideVC.mk (by first | omega | decide | (simp only; omega) | (simp [slS]; done) | (simp [slS]; omega) | (simp only [byteE_len, mvE_len, strE_len, intE_len, esC_len, List.length_cons, List.length_nil, List.length_append, List.length_replicate, List.length_set, Int.toNat_natCast, and_true] at *; omega)) ?_ | refine LoopN.go ?_ | exact trivial | refine AltVC.mk ?_ ?_ | refine HeldVC.mk rfl ?_ | refine DrawIn.tree (id := 14) tt_ok [11, 3002] trPp (by kernel_rfl) (by kernel_rfl) (by kernel_rfl) rfl ?_ | refine LoadVC.mk _ rfl ?_ | refine SideVC.mk (by simp only [esC_len, List.length_cons, List.length_nil] at *; omega) ?_ | refine OpVC.more tt_ok ?_ | refine RestVC.ext tt_ok ?_)); all_goals (conv => whnf)
          all_goals first | (exfalso; simp only [intE, List.map_cons, List.map_nil, List.length_cons, List.length_nil] at *; omega) | exact MSubVC.mk [(3001, 65)] _ rfl rfl
        | [], hnl, hml =>
          rw [List.append_nil]
          (repeat' ((conv => whnf); first | refine CondVC.t ?_ | refine CondVC.f ?_ | refine CondVC.dec (fun h => ?_) (fun h => ?_) | refine CondVC.ndec (fun h => ?_) (fun h => ?_) | refine CondVC.mk (fun h => ?_) (fun h => ?_) | refine ArVC.i64 (by first | omega | (simp only; omega)) ?_ | refine SideVC.mk (by first | omega | decide | (simp only; omega) | (simp [slS]; done) | (simp [slS]; omega) | (simp only [byteE_len, mvE_len, strE_len, intE_len, esC_len, List.length_cons, List.length_nil, List.length_append, List.length_replicate, List.length_set, Int.toNat_natCast, and_true] at *; omega)) ?_ | refine LoopN.go ?_ | exact trivial | refine AltVC.mk ?_ ?_ | refine HeldVC.mk rfl ?_ | refine OpVC.more tt_ok ?_ | refine RestVC.ext tt_ok ?_)); all_goals (conv => whnf)
          all_goals exact MSubVC.mk [] _ rfl rfl
        | [a], hnl, hml =>
          rw [List.append_nil]
          (repeat' ((conv => whnf); first | refine CondVC.t ?_ | refine CondVC.f ?_ | refine CondVC.dec (fun h => ?_) (fun h => ?_) | refine CondVC.ndec (fun h => ?_) (fun h => ?_) | refine CondVC.mk (fun h => ?_) (fun h => ?_) | refine ArVC.i64 (by first | omega | (simp only; omega)) ?_ | refine SideVC.mk (by first | omega | decide | (simp only; omega) | (simp [slS]; done) | (simp [slS]; omega) | (simp only [byteE_len, mvE_len, strE_len, intE_len, esC_len, List.length_cons, List.length_nil, List.length_append, List.length_replicate, List.length_set, Int.toNat_natCast, and_true] at *; omega)) ?_ | refine LoopN.go ?_ | exact trivial | refine AltVC.mk ?_ ?_ | refine HeldVC.mk rfl ?_ | refine OpVC.more tt_ok ?_ | refine RestVC.ext tt_ok ?_)); all_goals (conv => whnf)
          all_goals exact MSubVC.mk [] _ rfl rfl
        | [a, b], hnl, hml =>
          rw [List.append_nil]
          (repeat' ((conv => whnf); first | refine CondVC.t ?_ | refine CondVC.f ?_ | refine CondVC.dec (fun h => ?_) (fun h => ?_) | refine CondVC.ndec (fun h => ?_) (fun h => ?_) | refine CondVC.mk (fun h => ?_) (fun h => ?_) | refine ArVC.i64 (by first | omega | (simp only; omega)) ?_ | refine SideVC.mk (by first | omega | decide | (simp only; omega) | (simp [slS]; done) | (simp [slS]; omega) | (simp only [byteE_len, mvE_len, strE_len, intE_len, esC_len, List.length_cons, List.length_nil, List.length_append, List.length_replicate, List.length_set, Int.toNat_natCast, and_true] at *; omega)) ?_ | refine LoopN.go ?_ | exact trivial | refine AltVC.mk ?_ ?_ | refine HeldVC.mk rfl ?_ | refine OpVC.more tt_ok ?_ | refine RestVC.ext tt_ok ?_)); all_goals (conv => whnf)
          all_goals exact MSubVC.mk [] _ rfl rfl
        | a :: b :: c :: d :: l4, hnl, hml =>
          rw [List.append_nil]
          (repeat' ((conv => whnf); first | refine CondVC.t ?_ | refine CondVC.f ?_ | refine CondVC.dec (fun h => ?_) (fun h => ?_) | refine CondVC.ndec (fun h => ?_) (fun h => ?_) | refine CondVC.mk (fun h => ?_) (fun h => ?_) | refine ArVC.i64 (by first | omega | (simp only; omega)) ?_ | refine SideVC.mk (by first | omega | decide | (simp only; omega) | (simp [slS]; done) | (simp [slS]; omega) | (simp only [byteE_len, mvE_len, strE_len, intE_len, esC_len, List.length_cons, List.length_nil, List.length_append, List.length_replicate, List.length_set, Int.toNat_natCast, and_true] at *; omega)) ?_ | refine LoopN.go ?_ | exact trivial | refine AltVC.mk ?_ ?_ | refine HeldVC.mk rfl ?_ | refine OpVC.more tt_ok ?_ | refine RestVC.ext tt_ok ?_)); all_goals (conv => whnf)
          all_goals first | (exfalso; simp only [intE, List.map_cons, List.map_nil, List.length_cons, List.length_nil, List.length_map] at *; omega) | exact MSubVC.mk [] _ rfl rfl
    · have hLl : (ppL s).length ≤ 200 := by
        have p1 := clsW_len atoF (spl 44 R)
        have p2 := spl_many 44 R
        rw [e2]; omega
      rw [← e1, ← e2]
      have h6 := Spec.ren [(1000, 3001)] [(3001, 1000)] (implIsPuzzle_spec (ppN s) (ppL s) (by omega)) rfl rfl rfl
      have hok2 : ok = (goodF (ppN s) (ppL s) && decide (pzT (ppN s) (ppL s) = s)) := by rw [← hok]; unfold okI; rw [decide_eq_true hl]; rfl
      clear hok e1 e2 h1 h2 h3 i1
      generalize ppN s = n at *
      generalize ppL s = L at *
      cases hg : goodF n L with
      | false =>
        rw [hg] at h6 hok2
        rw [hok2, Bool.false_and, if_neg Bool.false_ne_true, if_neg Bool.false_ne_true]
        (repeat' ((conv => whnf); first | refine CondVC.t ?_ | refine CondVC.f ?_ | refine CondVC.dec (fun h => ?_) (fun h => ?_) | refine CondVC.ndec (fun h => ?_) (fun h => ?_) | refine CondVC.mk (fun h => ?_) (fun h => ?_) | refine ArVC.i64 (by first | omega | (simp only; omega)) ?_ | refine SideVC.mk (by first | omega | decide | (simp only; omega) | (simp [slS]; done) | (simp [slS]; omega) | (simp only [byteE_len, mvE_len, strE_len, intE_len, esC_len, List.length_cons, List.length_nil, List.length_append, List.length_replicate, List.length_set, Int.toNat_natCast, and_true] at *; omega)) ?_ | refine LoopN.go ?_ | exact trivial | refine AltVC.mk ?_ ?_ | refine HeldVC.mk rfl ?_ | refine CallVC.res [3001] rfl h6 rfl ?_ | refine OpVC.more tt_ok ?_ | refine RestVC.ext tt_ok ?_)); all_goals (conv => whnf)
        all_goals first | (exfalso; simp_all; done) | exact RetVC.nil 1001 70 3 [.agg [.int .i64 0, .sl 1001], vb false] [(3001, .sl 70 3 (esC L)), (1000, errR o1 o2), (2, .box 24 [.int .i64 0, .val (.slice none 0 0)]), (9, .box 24 [.int .i64 n, .sl 3001])] rfl rfl rfl (RetVC.res rfl rfl)
      | true =>
        have h7 := Spec.ren [(1000, 3001)] [(3001, 1000)] (text2_spec n L hg) rfl rfl rfl
        rw [hg] at h6 hok2
        by_cases ht : pzT n L = s
        · rw [ht] at h7 hok2
          rw [decide_eq_true rfl] at hok2
          rw [hok2, Bool.true_and, if_pos rfl, if_pos rfl]
          (repeat' ((conv => whnf); first | refine CondVC.t ?_ | refine CondVC.f ?_ | refine CondVC.dec (fun h => ?_) (fun h => ?_) | refine CondVC.ndec (fun h => ?_) (fun h => ?_) | refine CondVC.mk (fun h => ?_) (fun h => ?_) | refine ArVC.i64 (by first | omega | (simp only; omega)) ?_ | refine SideVC.mk (by first | omega | decide | (simp only; omega) | (simp [slS]; done) | (simp [slS]; omega) | (simp only [byteE_len, mvE_len, strE_len, intE_len, esC_len, List.length_cons, List.length_nil, List.length_append, List.length_replicate, List.length_set, Int.toNat_natCast, and_true] at *; omega)) ?_ | refine LoopN.go ?_ | exact trivial | refine AltVC.mk ?_ ?_ | refine HeldVC.mk rfl ?_ | refine CallVC.res [3001] rfl h6 rfl ?_ | refine CallVC.res [3001] rfl h7 rfl ?_ | refine OpVC.more tt_ok ?_ | refine RestVC.ext tt_ok ?_)); all_goals (conv => whnf)
          all_goals first | (exfalso; simp_all; done) | exact RetVC.ren [(1001, 3001)] [.agg [.int .i64 n, .sl 1001], vb true] [(1000, errR o1 o2), (1001, .sl 70 3 (esC L))] rfl rfl rfl ⟨rfl, rfl⟩
        · rw [decide_eq_false ht] at hok2
          rw [hok2, Bool.and_false, if_neg Bool.false_ne_true, if_neg Bool.false_ne_true]
          generalize pzT n L = tx at *
          (repeat' ((conv => whnf); first | refine CondVC.t ?_ | refine CondVC.f ?_ | refine CondVC.dec (fun h => ?_) (fun h => ?_) | refine CondVC.ndec (fun h => ?_) (fun h => ?_) | refine CondVC.mk (fun h => ?_) (fun h => ?_) | refine ArVC.i64 (by first | omega | (simp only; omega)) ?_ | refine SideVC.mk (by first | omega | decide | (simp only; omega) | (simp [slS]; done) | (simp [slS]; omega) | (simp only [byteE_len, mvE_len, strE_len, intE_len, esC_len, List.length_cons, List.length_nil, List.length_append, List.length_replicate, List.length_set, Int.toNat_natCast, and_true] at *; omega)) ?_ | refine LoopN.go ?_ | exact trivial | refine AltVC.mk ?_ ?_ | refine HeldVC.mk rfl ?_ | refine CallVC.res [3001] rfl h6 rfl ?_ | refine CallVC.res [3001] rfl h7 rfl ?_ | refine OpVC.more tt_ok ?_ | refine RestVC.ext tt_ok ?_)); all_goals (conv => whnf)
          all_goals first | (exfalso; simp_all; done) | exact RetVC.nil 1001 70 3 [.agg [.int .i64 0, .sl 1001], vb false] [(3001, .sl 70 3 (esC L)), (1000, errR o1 o2), (2, .box 24 [.int .i64 0, .val (.slice none 0 0)]), (9, .box 24 [.int .i64 n, .sl 3001])] rfl rfl rfl (RetVC.res rfl rfl)
  · have hok : okI s = false := by unfold okI; rw [decide_eq_false hl]; rfl
    rw [hok, if_neg Bool.false_ne_true, if_neg Bool.false_ne_true]
    refine Spec.of_wpxR tt_ok Tryd.func9 (by kernel_rfl) rfl (by kernel_rfl) ?_
    (repeat' ((conv => whnf); first | refine CondVC.t ?_ | refine CondVC.f ?_ | refine CondVC.dec (fun h => ?_) (fun h => ?_) | refine CondVC.ndec (fun h => ?_) (fun h => ?_) | refine CondVC.mk (fun h => ?_) (fun h => ?_) | refine ArVC.i64 (by first | omega | (simp only; omega)) ?_ | refine SideVC.mk (by first | omega | decide | (simp only; omega) | (simp [slS]; done) | (simp [slS]; omega) | (simp only [byteE_len, mvE_len, strE_len, intE_len, esC_len, List.length_cons, List.length_nil, List.length_append, List.length_replicate, List.length_set, Int.toNat_natCast, and_true] at *; omega)) ?_ | refine LoopN.go ?_ | exact trivial | refine AltVC.mk ?_ ?_ | refine HeldVC.mk rfl ?_ | refine OpVC.more tt_ok ?_ | refine RestVC.ext tt_ok ?_)); all_goals (conv => whnf)
    all_goals try (exfalso; omega)
    all_goals exact RetVC.nil 1001 70 3 [.agg [.int .i64 0, .sl 1001], vb false] [(2, .box 24 [.int .i64 0, .val (.slice none 0 0)]), (1000, errR o1 o2)] rfl rfl rfl (RetVC.res rfl rfl)
end Go.Proofs.YtaidpalamhmghaaDoor.X
