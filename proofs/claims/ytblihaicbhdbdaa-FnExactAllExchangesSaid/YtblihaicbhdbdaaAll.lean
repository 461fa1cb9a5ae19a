/- All exchanges: the program's and the reference's. No condition beyond each statement's. -/
import Derived.Test.YtblihaicbhdbdaaAllF
import Derived.Test.YtblihaicbhdbdaaSwap
import Derived.Test.YtblihaicbhdbdaaNestO
namespace Go.Proofs.Ytblihaicbhdbdaa.X
open Go.Proofs
set_option maxRecDepth 100000
set_option linter.unusedVariables false
set_option linter.unusedSimpArgs false

theorem cloneM_spec (l : List Mv) (hl : l.length ≤ 1000000) : Spec Try.prog 46 [.c (.sl 1000)] [(1000, .sl 66 2 (mvE l))]
    (isRes [.c (.sl 1001)] [(1000, .sl 66 2 (mvE l)), (1001, .sl 66 2 (mvE l))]) := by
  have hml := mvE_len l
  refine Spec.of_wpx tt_ok Try.func46 (by kernel_rfl) rfl ?_
  (repeat' ((conv => whnf); first | refine CondVC.t ?_ | refine CondVC.f ?_ | refine CondVC.dec (fun h => ?_) (fun h => ?_) | refine CondVC.ndec (fun h => ?_) (fun h => ?_) | refine CondVC.mk (fun h => ?_) (fun h => ?_) | refine ArVC.i64 (by first | omega | (simp only; omega)) ?_ | refine SideVC.mk (by first | omega | decide | (simp only; omega) | (simp [slS]; done) | (simp [slS]; omega) | (simp only [byteE_len, mvE_len, strE_len, intE_len, esC_len, List.length_cons, List.length_nil, List.length_append, List.length_replicate, List.length_set, Int.toNat_natCast, and_true] at *; omega)) ?_ | refine LoopN.go ?_ | exact trivial | refine AltVC.mk ?_ ?_ | refine HeldVC.mk rfl ?_ | refine NilVC.mk (fun he => ?_) ?_ | refine SideVC.mk (by rw [hml]; simp only [List.length_nil]; omega) ?_ | refine OpVC.more tt_ok ?_ | refine RestVC.ext tt_ok ?_)); all_goals (conv => whnf)
  all_goals first
    | exact RetVC.ren [(1001, 7)] [.c (.sl 1001)] [(1000, .sl 66 2 (mvE l)), (1001, .sl 66 2 (mvE l))] rfl rfl rfl ⟨rfl, rfl⟩
    | (have e : l = [] := (by cases l with | nil => rfl | cons a b => simp [mvE] at he)
       subst e
       exact RetVC.nil 1001 66 2 [.c (.sl 1001)] [(1000, .sl 66 2 (mvE []))] rfl rfl rfl (RetVC.res rfl rfl))
def sxM (x : Wy) (b : List Mv) (ess : List (List (List C))) : Mem := [(1000, .box 48 [.sl 1001, .sl 1002]), (1001, .sl 9 1 (strE x.1)), (1002, .sl 3 1 (intE x.2)), (1003, .sl 66 2 (mvE b)), (1004, .box 28 [.sl 1005]), (1005, .ext (.nest 33 66 2 ess []))]
def sxR (x : Wy) (ess : List (List (List C))) : Mem := [(1000, .box 48 [.sl 1011, .sl 1012]), (1011, .sl 9 1 (strE x.1)), (1012, .sl 3 1 (intE x.2)), (1004, .box 28 [.sl 1015]), (1015, .ext (.nest 33 66 2 ess []))]
def SwlS (g w : Tx) : Prop := ∀ (b : List Mv) (ess : List (List (List C))) (x0 : Wy), okEn x0 → b.length + wayF w ≤ 1000 → ess.length + playsF g w ≤ 1000 →
  Spec Try.prog 40 [.c (.ptr 1000 0), .c (.str w), .c (.sl 1003), .c (.ptr 1004 0)] (sxM x0 b ess) (exRes okEn (fun _ => []) (fun x => sxR x (ess ++ exE b (allX g w))))
set_option maxHeartbeats 1600000 in
theorem swList_spec (g : Tx) : ∀ (n : Nat) (w : Tx), wayF w < n → w.length ≤ 8 → w.all okCh = true → lastF w = g → SwlS g w
  | 0, w, hn, _, _, _ => absurd hn (Nat.not_lt_zero _)
  | n + 1, w, hn, hw, hok, hlg => by
    intro b ess x0 hx0 hbl hel
    have h1 := liLast_spec w (by omega)
    rw [hlg] at h1
    have hmb := mvE_len b
    unfold sxM sxR
    by_cases hwg : w = g
    · subst hwg
      have hex : exE b (allX w w) = [mvE b] := by rw [allX_self]; simp [exE]
      rw [hex]
      refine Spec.of_wpx tt_ok Try.func40 (by kernel_rfl) rfl ?_
      (repeat' ((conv => whnf); first | refine CondVC.t ?_ | refine CondVC.f ?_ | refine CondVC.dec (fun h => ?_) (fun h => ?_) | refine CondVC.ndec (fun h => ?_) (fun h => ?_) | refine CondVC.mk (fun h => ?_) (fun h => ?_) | refine ArVC.i64 (by first | omega | (simp only; omega)) ?_ | refine SideVC.mk (by first | omega | decide | (simp only; omega) | (simp [slS]; done) | (simp [slS]; omega) | (simp only [byteE_len, mvE_len, strE_len, intE_len, esC_len, List.length_cons, List.length_nil, List.length_append, List.length_replicate, List.length_set, Int.toNat_natCast, and_true] at *; omega)) ?_ | refine LoopN.go ?_ | exact trivial | refine AltVC.mk ?_ ?_ | refine HeldVC.mk rfl ?_ | refine CallVC.pure h1 rfl ?_ | refine RestVC2.nestBuild tt_ok rfl rfl rfl rfl rfl rfl rfl rfl ?_ | refine RestVC2.nestAppend tt_ok rfl rfl rfl rfl rfl rfl rfl rfl rfl rfl rfl (Nat.succ_pos _) (by simp only [List.length_cons, List.length_nil]; omega) ?_ | refine OpVC.more tt_ok ?_ | refine RestVC.ext tt_ok ?_)); all_goals (conv => whnf)
      all_goals first
        | exact RetVC.ren [(1011, 1001), (1012, 1002), (1015, 21)] [] [(1000, .box 48 [.sl 1011, .sl 1012]), (1011, .sl 9 1 (strE x0.1)), (1012, .sl 3 1 (intE x0.2)), (1004, .box 28 [.sl 1015]), (1015, .ext (.nest 33 66 2 (ess ++ [mvE b]) []))] rfl rfl rfl ⟨x0, hx0, rfl, rfl⟩
        | (exfalso; simp_all; done)
    · have hL := hlg
      have h2 := Spec.ren [(1001, 2001)] [(2001, 1001)] (liMoves_spec w true true hok (by omega)) rfl rfl rfl
      rw [liMoves_eq hok, show kindsF true true = both from rfl] at h2
      have hin : ∀ m ∈ movesF w both, _ := fun m hm => movesF_in hm
      have hmk : ∀ m ∈ movesF w both, _ := fun m hm => liMake_spec w m (hin m hm).1 (hin m hm).2.1 (hin m hm).2.2 (by omega)
      have hcok : ∀ m ∈ movesF w both, _ := fun m hm => okCh_made hok (m := m) (by have := (hin m hm).1; omega)
      have hlg2 : ∀ m ∈ movesF w both, lastF (madeF w m) = g := fun m hm => by rw [lastF_made hm]; exact hlg
      have hW : ∀ m ∈ movesF w both, ∀ x, okEn x → _ := fun m hm x hx => by
        have h1 := ends_all (madeF w m) (by rw [madeF_len]; omega) (hcok m hm) x hx
        rw [hlg2 m hm, wp_few (by rw [madeF_len]; omega)] at h1
        unfold enM enR at h1
        exact Spec.renE [(1001, 3001), (1002, 3002), (1011, 3011), (1012, 3012)] [(3001, 1001), (3002, 1002), (3011, 1011), (3012, 1012)] h1 (fun _ => rfl) (fun _ => rfl) rfl
      have hrec : ∀ m ∈ movesF w both, SwlS g (madeF w m) ∧ wayF (madeF w m) < wayF w := fun m hm =>
        ⟨swList_spec g n (madeF w m) (by have := way_made hm; omega) (by rw [madeF_len]; exact hw) (hcok m hm) (hlg2 m hm), way_made hm⟩
      have hz := allTo_zero (movesF w both) g w
      have hsu := fun j (h : j < (movesF w both).length) => allTo_succ g w h
      have hend := allTo_end hwg (Nat.le_refl _)
      have hle := fun j => allTo_len (movesF w both) g w j
      have hxl := allX_len g _ w (Nat.lt_succ_self _)
      rw [hend, hxl] at hle
      have hxm : ∀ m ∈ movesF w both, _ := fun m hm => allX_len g _ (madeF w m) (Nat.lt_succ_self _)
      have hll := movesF_len w both
      generalize allTo (movesF w both) g w = at' at *
      generalize movesF w both = l at *
      have hml := mvE_len l
      refine Spec.of_wpx tt_ok Try.func40 (by kernel_rfl) rfl ?_
      (repeat' ((conv => whnf); first | refine CondVC.t ?_ | refine CondVC.f ?_ | refine CondVC.dec (fun h => ?_) (fun h => ?_) | refine CondVC.ndec (fun h => ?_) (fun h => ?_) | refine CondVC.mk (fun h => ?_) (fun h => ?_) | refine ArVC.i64 (by first | omega | (simp only; omega)) ?_ | refine SideVC.mk (by first | omega | decide | (simp only; omega) | (simp [slS]; done) | (simp [slS]; omega) | (simp only [byteE_len, mvE_len, strE_len, intE_len, esC_len, List.length_cons, List.length_nil, List.length_append, List.length_replicate, List.length_set, Int.toNat_natCast, and_true] at *; omega)) ?_ | refine LoopN.go ?_ | exact trivial | refine AltVC.mk ?_ ?_ | refine HeldVC.mk rfl ?_ | refine CallVC.pure h1 rfl ?_ | refine CallVC.res [] rfl h2 rfl ?_ | refine OpVC.more tt_ok ?_ | refine RestVC.ext tt_ok ?_)); all_goals (conv => whnf)
      all_goals try (exfalso; simp_all; done)
      refine LoopVC.mk (G := Nat × Wy) (fun γ => ⟨[(26, .v (i64 γ.1)), (25, .v (i64 l.length)), (24, .v (.c (.sl 2001))), (3, .v (.c (.ptr 1004 0))), (2, .v (.c (.sl 1003))), (1, .v (.c (.str w))), (0, .v (.c (.ptr 1000 0)))],
          [(2001, .sl 66 2 (mvE l)), (1000, .box 48 [.sl 3001, .sl 3002]), (3001, .sl 9 1 (strE γ.2.1)), (3002, .sl 3 1 (intE γ.2.2)), (1003, .sl 66 2 (mvE b)), (1004, .box 28 [.sl 3005]), (3005, .ext (.nest 33 66 2 (ess ++ exE b (at' γ.1)) []))]⟩)
        (fun γ => γ.1 ≤ l.length ∧ okEn γ.2) (fun γ => l.length - γ.1) (0, x0) ⟨Nat.zero_le _, hx0⟩
        (Sub.mk [(3001, 1001), (3002, 1002), (3005, 1005)] _ ⟨rfl, by rw [hml]; rfl, rfl, rfl, rfl, rfl, rfl, trivial⟩ (by simp only [hz, exE, List.map_nil, List.append_nil]; rfl) rfl) ?_
      rintro ⟨j, x⟩ ⟨hj, hx⟩
      simp only at hj hx
      by_cases hjl : j < l.length
      · have hmem := List.getElem_mem hjl
        have gj : (mvE l)[(j : Int).toNat]? = some (mvC l[j]) := by rw [Int.toNat_natCast]; exact mvE_get hjl
        have h6 := hmk _ hmem
        have h8 := hW _ hmem x hx
        have hsj := hsu j hjl
        have hlj := hle (j + 1)
        obtain ⟨hr, hwm⟩ := hrec _ hmem
        have hxu := hxm _ hmem
        rw [hsj, List.length_append, List.length_map, hxu] at hlj
        obtain ⟨u, hu⟩ : ∃ u, u = madeF w l[j] := ⟨_, rfl⟩
        rw [← hu] at h6 h8 hsj hr hwm hxu hlj
        generalize l[j] = m at *
        by_cases hq : 0 < playsF g u
        · have hr2 := fun x (hx : okEn x) => hr (b ++ [m]) (ess ++ exE b (at' j)) x hx (by simp only [List.length_append, List.length_cons, List.length_nil]; omega) (by rw [List.length_append, exE_len]; omega)
          unfold sxM sxR at hr2
          have hr3 := fun x hx => Spec.renE [(1001, 3011), (1002, 3012), (1003, 44), (1005, 3005), (1011, 3021), (1012, 3022), (1015, 3015)] [(3011, 1001), (3012, 1002), (44, 1003), (3005, 1005), (3021, 1011), (3022, 1012), (3015, 1015)] (hr2 x hx) (fun _ => rfl) (fun _ => rfl) rfl
          have hfin : ess ++ exE b (at' j) ++ exE (b ++ [m]) (allX g u) = ess ++ exE b (at' (j + 1)) := by rw [hsj, exE_app, exE_cons, List.append_assoc]
          simp only [hfin, mvE_append] at hr3
          obtain ⟨q, hqe⟩ : ∃ q, q = playsF g u := ⟨_, rfl⟩
          rw [← hqe] at h8
          (repeat' ((conv => whnf); first | refine CondVC.t ?_ | refine CondVC.f ?_ | refine CondVC.dec (fun h => ?_) (fun h => ?_) | refine CondVC.ndec (fun h => ?_) (fun h => ?_) | refine CondVC.mk (fun h => ?_) (fun h => ?_) | refine ArVC.i64 (by first | omega | (simp only; omega)) ?_ | refine SideVC.mk (by first | omega | decide | (simp only; omega) | (simp [slS]; done) | (simp [slS]; omega) | (simp only [byteE_len, mvE_len, strE_len, intE_len, esC_len, List.length_cons, List.length_nil, List.length_append, List.length_replicate, List.length_set, Int.toNat_natCast, and_true] at *; omega)) ?_ | refine LoopN.go ?_ | exact trivial | refine AltVC.mk ?_ ?_ | refine HeldVC.mk rfl ?_ | refine LoadVC.mk _ gj ?_ | refine SideVC.mk (by rw [hml]; omega) ?_ | refine SideVC.mk (by simp only [hmb, List.length_append, List.length_cons, List.length_nil]; omega) ?_ | refine CallVC.pure h6 rfl ?_ | (refine CallVC.ex [1000, 3001, 3002] rfl h8 ?_; intro x' hx'; refine ⟨rfl, ?_⟩; have hr4 := hr3 x' hx'.1) | refine DrawVC.tree (id := 7) tt_ok [9] tr40_7 (by kernel_rfl) (by kernel_rfl) rfl ?_ | (refine CallVC.ex [1000, 3011, 3012, 44, 1004, 3005] rfl hr4 ?_; intro x2 hx2; refine ⟨rfl, ?_⟩) | refine OpVC.more tt_ok ?_ | refine RestVC.ext tt_ok ?_)); all_goals (conv => whnf)
          all_goals first
            | (exfalso; omega)
            | exact ⟨(j + 1, x2), ⟨by simp only; omega, hx2⟩, by simp only; omega, Sub.mk [(3001, 3021), (3002, 3022), (3005, 3015)] _ ⟨rfl, rfl, rfl, rfl, rfl, rfl, rfl, trivial⟩ rfl rfl⟩
        · have hq0 : playsF g u = 0 := by omega
          have hx0' : allX g u = [] := allX_none hq0
          rw [hx0', List.map_nil, List.append_nil] at hsj
          rw [hq0] at h8
          (repeat' ((conv => whnf); first | refine CondVC.t ?_ | refine CondVC.f ?_ | refine CondVC.dec (fun h => ?_) (fun h => ?_) | refine CondVC.ndec (fun h => ?_) (fun h => ?_) | refine CondVC.mk (fun h => ?_) (fun h => ?_) | refine ArVC.i64 (by first | omega | (simp only; omega)) ?_ | refine SideVC.mk (by first | omega | decide | (simp only; omega) | (simp [slS]; done) | (simp [slS]; omega) | (simp only [byteE_len, mvE_len, strE_len, intE_len, esC_len, List.length_cons, List.length_nil, List.length_append, List.length_replicate, List.length_set, Int.toNat_natCast, and_true] at *; omega)) ?_ | refine LoopN.go ?_ | exact trivial | refine AltVC.mk ?_ ?_ | refine HeldVC.mk rfl ?_ | refine LoadVC.mk _ gj ?_ | refine SideVC.mk (by rw [hml]; omega) ?_ | refine CallVC.pure h6 rfl ?_ | (refine CallVC.ex [1000, 3001, 3002] rfl h8 ?_; intro x' hx'; refine ⟨rfl, ?_⟩) | refine OpVC.more tt_ok ?_ | refine RestVC.ext tt_ok ?_)); all_goals (conv => whnf)
          all_goals first
            | (exfalso; omega)
            | exact ⟨(j + 1, x'), ⟨by simp only; omega, hx'.1⟩, by simp only; omega, Sub.mk [(3001, 3011), (3002, 3012)] _ ⟨rfl, rfl, rfl, rfl, rfl, rfl, rfl, trivial⟩ (by simp only [hsj]; rfl) rfl⟩
      · have ej : j = l.length := by omega
        subst ej
        (repeat' ((conv => whnf); first | refine CondVC.t ?_ | refine CondVC.f ?_ | refine CondVC.dec (fun h => ?_) (fun h => ?_) | refine CondVC.ndec (fun h => ?_) (fun h => ?_) | refine CondVC.mk (fun h => ?_) (fun h => ?_) | refine ArVC.i64 (by first | omega | (simp only; omega)) ?_ | refine SideVC.mk (by first | omega | decide | (simp only; omega) | (simp [slS]; done) | (simp [slS]; omega) | (simp only [byteE_len, mvE_len, strE_len, intE_len, esC_len, List.length_cons, List.length_nil, List.length_append, List.length_replicate, List.length_set, Int.toNat_natCast, and_true] at *; omega)) ?_ | refine LoopN.go ?_ | exact trivial | refine AltVC.mk ?_ ?_ | refine HeldVC.mk rfl ?_ | refine OpVC.more tt_ok ?_ | refine RestVC.ext tt_ok ?_)); all_goals (conv => whnf)
        all_goals first
          | (exfalso; omega)
          | exact RetVC.ren [(1011, 3001), (1012, 3002), (1015, 3005)] [] [(1000, .box 48 [.sl 1011, .sl 1012]), (1011, .sl 9 1 (strE x.1)), (1012, .sl 3 1 (intE x.2)), (1004, .box 28 [.sl 1015]), (1015, .ext (.nest 33 66 2 (ess ++ exE b (at' l.length)) []))] rfl rfl rfl ⟨x, hx, rfl, by simp only [hend]⟩

/-! ### The program's -/
def pxB : C := .fn 43 [1003, 1004, 1006]
def pxM (g : Tx) (es : List (C × V)) (b : List Mv) (ess : List (List (List C))) : Mem := [(1003, .box 60 [.str g, .mp 1000]), (1000, .ext (.mp none es)), (1004, .box 28 [.sl 1005]), (1005, .ext (.nest 33 66 2 ess [])), (1006, .box 63 [pxB]), (1001, .sl 66 2 (mvE b))]
def pxR (g : Tx) (es : List (C × V)) (ess : List (List (List C))) : Mem := [(1003, .box 60 [.str g, .mp 1000]), (1000, .ext (.mp none es)), (1004, .box 28 [.sl 1015]), (1015, .ext (.nest 33 66 2 ess [])), (1006, .box 63 [pxB])]
def PlyS (g w : Tx) : Prop := ∀ (b : List Mv) (ess : List (List (List C))) (es : List (C × V)), okWays g es → b.length + wayF w ≤ 1000 → ess.length + playsF g w ≤ 1000 →
  Spec Try.prog 43 [.c (.str w), .c (.sl 1001), .c (.ptr 1003 0), .c (.ptr 1004 0), .c (.ptr 1006 0)] (pxM g es b ess) (exRes (okWays g) (fun _ => []) (fun es' => pxR g es' (ess ++ exE b (allX g w))))
set_option maxHeartbeats 1600000 in
theorem play_spec (g : Tx) : ∀ (n : Nat) (w : Tx), wayF w < n → w.length ≤ 8 → PlyS g w
  | 0, w, hn, _ => absurd hn (Nat.not_lt_zero _)
  | n + 1, w, hn, hw => by
    intro b ess es hes hbl hel
    have hmb := mvE_len b
    unfold pxM pxR pxB
    by_cases hwg : w = g
    · subst hwg
      have hex : exE b (allX w w) = [mvE b] := by rw [allX_self]; simp [exE]
      rw [hex]
      refine Spec.of_wpx tt_ok Try.func43 (by kernel_rfl) rfl ?_
      (repeat' ((conv => whnf); first | refine CondVC.t ?_ | refine CondVC.f ?_ | refine CondVC.dec (fun h => ?_) (fun h => ?_) | refine CondVC.ndec (fun h => ?_) (fun h => ?_) | refine CondVC.mk (fun h => ?_) (fun h => ?_) | refine ArVC.i64 (by first | omega | (simp only; omega)) ?_ | refine SideVC.mk (by first | omega | decide | (simp only; omega) | (simp [slS]; done) | (simp [slS]; omega) | (simp only [byteE_len, mvE_len, strE_len, intE_len, esC_len, List.length_cons, List.length_nil, List.length_append, List.length_replicate, List.length_set, Int.toNat_natCast, and_true] at *; omega)) ?_ | refine LoopN.go ?_ | exact trivial | refine AltVC.mk ?_ ?_ | refine HeldVC.mk rfl ?_ | refine RestVC2.nestBuild tt_ok rfl rfl rfl rfl rfl rfl rfl rfl ?_ | refine RestVC2.nestAppend tt_ok rfl rfl rfl rfl rfl rfl rfl rfl rfl rfl rfl (Nat.succ_pos _) (by simp only [List.length_cons, List.length_nil]; omega) ?_ | refine OpVC.more tt_ok ?_ | refine RestVC.ext tt_ok ?_)); all_goals (conv => whnf)
      all_goals first
        | exact RetVC.ren [(1015, 16)] [] [(1003, .box 60 [.str w, .mp 1000]), (1000, .ext (.mp none es)), (1004, .box 28 [.sl 1015]), (1015, .ext (.nest 33 66 2 (ess ++ [mvE b]) [])), (1006, .box 63 [.fn 43 [1003, 1004, 1006]])] rfl rfl rfl ⟨es, hes, rfl, rfl⟩
        | (exfalso; simp_all; done)
    · have hlv := Spec.renE [(1011, 2011)] [(2011, 1011)] (live_spec g w (by omega) es hes) (fun _ => rfl) (fun _ => rfl) rfl
      have hin : ∀ m ∈ liveF g w, _ := fun m hm => movesF_in (liveF_mem hm).1
      have hmk : ∀ m ∈ liveF g w, _ := fun m hm => made_spec w m (hin m hm).1 (hin m hm).2.1 (by omega)
      have hrec : ∀ m ∈ liveF g w, PlyS g (madeF w m) ∧ wayF (madeF w m) < wayF w := fun m hm =>
        ⟨play_spec g n (madeF w m) (by have := way_made (liveF_mem hm).1; omega) (by rw [madeF_len]; exact hw), way_made (liveF_mem hm).1⟩
      have hz := allTo_zero (liveF g w) g w
      have hsu := fun j (h : j < (liveF g w).length) => allTo_succ g w h
      have hend := allTo_live hw hwg (Nat.le_refl _)
      have hle := fun j => allTo_len (liveF g w) g w j
      have hxl := allX_len g _ w (Nat.lt_succ_self _)
      rw [hend, hxl] at hle
      have hxm : ∀ m ∈ liveF g w, _ := fun m hm => allX_len g _ (madeF w m) (Nat.lt_succ_self _)
      have hll : (liveF g w).length ≤ 8 := Nat.le_trans (List.length_filter_le _ _) (Nat.le_trans (movesF_len w both) hw)
      generalize allTo (liveF g w) g w = at' at *
      generalize liveF g w = l at *
      have hml := mvE_len l
      have hcl := Spec.ren [(1000, 1001), (1001, 4030)] [(1001, 1000), (4030, 1001)] (cloneM_spec b (by omega)) rfl rfl rfl
      refine Spec.of_wpx tt_ok Try.func43 (by kernel_rfl) rfl ?_
      (repeat' ((conv => whnf); first | refine CondVC.t ?_ | refine CondVC.f ?_ | refine CondVC.dec (fun h => ?_) (fun h => ?_) | refine CondVC.ndec (fun h => ?_) (fun h => ?_) | refine CondVC.mk (fun h => ?_) (fun h => ?_) | refine ArVC.i64 (by first | omega | (simp only; omega)) ?_ | refine SideVC.mk (by first | omega | decide | (simp only; omega) | (simp [slS]; done) | (simp [slS]; omega) | (simp only [byteE_len, mvE_len, strE_len, intE_len, esC_len, List.length_cons, List.length_nil, List.length_append, List.length_replicate, List.length_set, Int.toNat_natCast, and_true] at *; omega)) ?_ | refine LoopN.go ?_ | exact trivial | refine AltVC.mk ?_ ?_ | refine HeldVC.mk rfl ?_ | (refine CallVC.ex [1000] rfl hlv ?_; intro es2 hes2; refine ⟨rfl, ?_⟩) | refine OpVC.more tt_ok ?_ | refine RestVC.ext tt_ok ?_)); all_goals (conv => whnf)
      all_goals try (exfalso; simp_all; done)
      refine LoopVC.mk (G := Nat × List (C × V)) (fun γ => ⟨[(21, .v (i64 γ.1)), (20, .v (i64 l.length)), (19, .v (.c (.sl 2011))), (4, .v (.c (.ptr 1006 0))), (3, .v (.c (.ptr 1004 0))), (2, .v (.c (.ptr 1003 0))), (1, .v (.c (.sl 1001))), (0, .v (.c (.str w)))],
          [(2011, .sl 66 2 (mvE l)), (1003, .box 60 [.str g, .mp 1000]), (1000, .ext (.mp none γ.2)), (1004, .box 28 [.sl 3005]), (3005, .ext (.nest 33 66 2 (ess ++ exE b (at' γ.1)) [])), (1006, .box 63 [.fn 43 [1003, 1004, 1006]]), (1001, .sl 66 2 (mvE b))]⟩)
        (fun γ => γ.1 ≤ l.length ∧ okWays g γ.2) (fun γ => l.length - γ.1) (0, es2) ⟨Nat.zero_le _, hes2⟩
        (Sub.mk [(3005, 1005)] _ ⟨rfl, by rw [hml]; rfl, rfl, rfl, rfl, rfl, rfl, rfl, trivial⟩ (by simp only [hz, exE, List.map_nil, List.append_nil]; rfl) rfl) ?_
      rintro ⟨j, es⟩ ⟨hj, hes⟩
      simp only at hj hes
      by_cases hjl : j < l.length
      · have hmem := List.getElem_mem hjl
        have gj : (mvE l)[(j : Int).toNat]? = some (mvC l[j]) := by rw [Int.toNat_natCast]; exact mvE_get hjl
        have h6 := hmk _ hmem
        have hsj := hsu j hjl
        have hlj := hle (j + 1)
        obtain ⟨hr, hwm⟩ := hrec _ hmem
        have hxu := hxm _ hmem
        rw [hsj, List.length_append, List.length_map, hxu] at hlj
        obtain ⟨u, hu⟩ : ∃ u, u = madeF w l[j] := ⟨_, rfl⟩
        rw [← hu] at h6 hsj hr hwm hxu hlj
        generalize l[j] = m at *
        have hr2 := hr (b ++ [m]) (ess ++ exE b (at' j)) es hes (by simp only [List.length_append, List.length_cons, List.length_nil]; omega) (by rw [List.length_append, exE_len]; omega)
        unfold pxM pxR pxB at hr2
        have hr3 := Spec.renE [(1001, 33), (1005, 3005), (1015, 3015)] [(33, 1001), (3005, 1005), (3015, 1015)] hr2 (fun _ => rfl) (fun _ => rfl) rfl
        have hfin : ess ++ exE b (at' j) ++ exE (b ++ [m]) (allX g u) = ess ++ exE b (at' (j + 1)) := by rw [hsj, exE_app, exE_cons, List.append_assoc]
        simp only [hfin, mvE_append] at hr3
        (repeat' ((conv => whnf); first | refine CondVC.t ?_ | refine CondVC.f ?_ | refine CondVC.dec (fun h => ?_) (fun h => ?_) | refine CondVC.ndec (fun h => ?_) (fun h => ?_) | refine CondVC.mk (fun h => ?_) (fun h => ?_) | refine ArVC.i64 (by first | omega | (simp only; omega)) ?_ | refine SideVC.mk (by first | omega | decide | (simp only; omega) | (simp [slS]; done) | (simp [slS]; omega) | (simp only [byteE_len, mvE_len, strE_len, intE_len, esC_len, List.length_cons, List.length_nil, List.length_append, List.length_replicate, List.length_set, Int.toNat_natCast, and_true] at *; omega)) ?_ | refine LoopN.go ?_ | exact trivial | refine AltVC.mk ?_ ?_ | refine HeldVC.mk rfl ?_ | refine LoadVC.mk _ gj ?_ | refine SideVC.mk (by rw [hml]; omega) ?_ | refine SideVC.mk (by simp only [hmb, List.length_append, List.length_cons, List.length_nil]; omega) ?_ | refine CallVC.pure h6 rfl ?_ | refine CallVC.res [1001] rfl hcl rfl ?_ | refine DrawVC.tree (id := 5) tt_ok [8, 1006] tr43_5 (by kernel_rfl) (by kernel_rfl) rfl ?_ | (refine CallVC.ex [1003, 1000, 1004, 3005, 1006, 33] rfl hr3 ?_; intro es3 hes3; refine ⟨rfl, ?_⟩) | refine OpVC.more tt_ok ?_ | refine RestVC.ext tt_ok ?_)); all_goals (conv => whnf)
        all_goals first
          | (exfalso; omega)
          | exact ⟨(j + 1, es3), ⟨by simp only; omega, hes3⟩, by simp only; omega, Sub.mk [(3005, 3015)] _ ⟨rfl, rfl, rfl, rfl, rfl, rfl, rfl, rfl, trivial⟩ rfl rfl⟩
      · have ej : j = l.length := by omega
        subst ej
        (repeat' ((conv => whnf); first | refine CondVC.t ?_ | refine CondVC.f ?_ | refine CondVC.dec (fun h => ?_) (fun h => ?_) | refine CondVC.ndec (fun h => ?_) (fun h => ?_) | refine CondVC.mk (fun h => ?_) (fun h => ?_) | refine ArVC.i64 (by first | omega | (simp only; omega)) ?_ | refine SideVC.mk (by first | omega | decide | (simp only; omega) | (simp [slS]; done) | (simp [slS]; omega) | (simp only [byteE_len, mvE_len, strE_len, intE_len, esC_len, List.length_cons, List.length_nil, List.length_append, List.length_replicate, List.length_set, Int.toNat_natCast, and_true] at *; omega)) ?_ | refine LoopN.go ?_ | exact trivial | refine AltVC.mk ?_ ?_ | refine HeldVC.mk rfl ?_ | refine OpVC.more tt_ok ?_ | refine RestVC.ext tt_ok ?_)); all_goals (conv => whnf)
        all_goals first
          | (exfalso; omega)
          | exact RetVC.ren [(1015, 3005)] [] [(1003, .box 60 [.str g, .mp 1000]), (1000, .ext (.mp none es)), (1004, .box 28 [.sl 1015]), (1015, .ext (.nest 33 66 2 (ess ++ exE b (at' l.length)) [])), (1006, .box 63 [.fn 43 [1003, 1004, 1006]])] rfl rfl rfl ⟨es, hes, rfl, by simp only [hend]⟩
end Go.Proofs.Ytblihaicbhdbdaa.X
