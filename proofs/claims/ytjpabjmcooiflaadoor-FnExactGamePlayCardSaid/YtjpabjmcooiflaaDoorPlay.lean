/- Moves of a game, plays of a game. No condition beyond each statement's. -/
import Derived.Test.YtjpabjmcooiflaaDoorBest
namespace Go.Proofs.YtjpabjmcooiflaaDoor.X
open Go.Proofs
set_option maxRecDepth 100000
set_option linter.unusedVariables false
set_option linter.unusedSimpArgs false

def moveF (w : Tx) (t : Bool) : Option Mv := (bestF w t ++ movesF w (kOf t)).head?
theorem moveF_mem {w : Tx} {t : Bool} {m : Mv} (h : moveF w t = some m) : m ∈ movesF w (kOf t) := by
  have := List.mem_of_mem_head? (show m ∈ (bestF w t ++ movesF w (kOf t)).head? from h)
  rcases List.mem_append.1 this with h | h
  · exact bestF_mem h
  · exact h
theorem moveF_case (w : Tx) (t : Bool) : (∃ m ms, bestF w t = m :: ms ∧ moveF w t = some m) ∨ (bestF w t = [] ∧ ∃ m ms, movesF w (kOf t) = m :: ms ∧ moveF w t = some m) ∨ (bestF w t = [] ∧ movesF w (kOf t) = [] ∧ moveF w t = none) := by
  unfold moveF
  cases h : bestF w t with
  | cons m ms => exact .inl ⟨m, ms, rfl, rfl⟩
  | nil =>
    cases h2 : movesF w (kOf t) with
    | cons m ms => exact .inr (.inl ⟨rfl, m, ms, rfl, rfl⟩)
    | nil => exact .inr (.inr ⟨rfl, rfl, rfl⟩)
def mvO (o : Option Mv) : Mv := o.getD (0, 0)

theorem gaMove_spec (w : Tx) (t : Bool) (hok : w.all okCh = true) (hw : w.length ≤ 10) (x0 : Kn) (hx0 : okKn x0) : Spec Tryd.prog 64 [.c (.ptr 1000 0), .c (.str w), vb t] (knB x0)
    (exRes okKn (fun _ => [.agg (mvC (mvO (moveF w t))), vb (moveF w t).isSome]) (fun x => [(1000, .box 61 [.sl 1011, .sl 1012]), (1011, .sl 9 1 (strE x.1)), (1012, .sl 4 1 (boolE x.2))])) := by
  have h1 := gaBest_spec w t hok hw x0 hx0
  have h5 := liMoves_spec w t (!t) hok (by omega)
  rw [liMoves_eq hok, kOf_kinds] at h5
  have h5 := Spec.ren [(1001, 2001)] [(2001, 1001)] h5 rfl rfl rfl
  have hbl := bestF_len w t
  have hml := movesF_len w (kOf t)
  have hc := moveF_case w t
  generalize moveF w t = mo at *
  generalize bestF w t = bl at *
  generalize movesF w (kOf t) = l at *
  unfold knB at *
  refine Spec.of_wpx tt_ok Tryd.func64 (by kernel_rfl) rfl ?_
  rcases hc with ⟨m, ms, rfl, rfl⟩ | ⟨rfl, m, ms, rfl, rfl⟩ | ⟨rfl, rfl, rfl⟩
  all_goals
    (repeat' ((conv => whnf); first | refine CondVC.t ?_ | refine CondVC.f ?_ | refine CondVC.dec (fun h => ?_) (fun h => ?_) | refine CondVC.ndec (fun h => ?_) (fun h => ?_) | refine CondVC.mk (fun h => ?_) (fun h => ?_) | refine ArVC.i64 (by first | omega | (simp only; omega)) ?_ | refine SideVC.mk (by first | omega | decide | (simp only; omega) | (simp [slS]; done) | (simp [slS]; omega) | (simp only [byteE_len, mvE_len, strE_len, intE_len, esC_len, List.length_cons, List.length_nil, List.length_append, List.length_replicate, List.length_set, Int.toNat_natCast, and_true] at *; omega)) ?_ | refine LoopN.go ?_ | exact trivial | refine AltVC.mk ?_ ?_ | refine HeldVC.mk rfl ?_ | (refine CallVC.ex [1000, 1001, 1002] rfl h1 ?_; intro x1 hx1; refine ⟨rfl, ?_⟩) | refine CallVC.res [] rfl h5 rfl ?_ | refine LoadVC.mk (mvC m) rfl ?_ | refine OpVC.more tt_ok ?_ | refine RestVC.ext tt_ok ?_)); all_goals (conv => whnf)
    all_goals first
      | exact RetVC.mk rfl ⟨x1, hx1, rfl, rfl⟩
      | (exfalso; simp only [mvE_len, List.length_cons, List.length_nil] at *; omega)

theorem gamesMove_spec (w : Tx) (t : Bool) (hw : w.length ≤ 1000) (es : List (C × V)) (hes : okWin es) : Spec Tryd.prog 65 [.agg [.mp 1000], .c (.str w), vb t] [(1000, .ext (.mp none es))]
    (exRes okWin (fun _ => [.agg (mvC (mvO (moveF w t))), vb (moveF w t).isSome]) (fun es' => [(1000, .ext (.mp none es'))])) := by
  have h1 := best_spec w t hw es hes
  have h2 := moves_spec w (kOf t) (by omega)
  have hko := kindOf_spec t
  have hbl := bestF_len w t
  have hml := movesF_len w (kOf t)
  have hc := moveF_case w t
  generalize moveF w t = mo at *
  generalize bestF w t = bl at *
  generalize kOf t = kd at *
  generalize movesF w kd = l at *
  refine Spec.of_wpx tt_ok Tryd.func65 (by kernel_rfl) rfl ?_
  rcases hc with ⟨m, ms, rfl, rfl⟩ | ⟨rfl, m, ms, rfl, rfl⟩ | ⟨rfl, rfl, rfl⟩
  all_goals
    (repeat' ((conv => whnf); first | refine CondVC.t ?_ | refine CondVC.f ?_ | refine CondVC.dec (fun h => ?_) (fun h => ?_) | refine CondVC.ndec (fun h => ?_) (fun h => ?_) | refine CondVC.mk (fun h => ?_) (fun h => ?_) | refine ArVC.i64 (by first | omega | (simp only; omega)) ?_ | refine SideVC.mk (by first | omega | decide | (simp only; omega) | (simp [slS]; done) | (simp [slS]; omega) | (simp only [byteE_len, mvE_len, strE_len, intE_len, esC_len, List.length_cons, List.length_nil, List.length_append, List.length_replicate, List.length_set, Int.toNat_natCast, and_true] at *; omega)) ?_ | refine LoopN.go ?_ | exact trivial | refine AltVC.mk ?_ ?_ | refine HeldVC.mk rfl ?_ | (refine CallVC.ex [1000] rfl h1 ?_; intro x1 hx1; refine ⟨rfl, ?_⟩) | refine CallVC.pure hko rfl ?_ | refine CallVC.res [] rfl h2 rfl ?_ | refine LoadVC.mk (mvC m) rfl ?_ | refine SideVC.mk (by simp only [mvE_len, List.length_cons, List.length_nil] at *; omega) ?_ | refine OpVC.more tt_ok ?_ | refine RestVC.ext tt_ok ?_)); all_goals (conv => whnf)
    all_goals first
      | exact RetVC.mk rfl ⟨x1, hx1, rfl, rfl⟩
      | (exfalso; simp only [mvE_len, List.length_cons, List.length_nil, List.length_append] at *; omega)

def moveAskF (w : Tx) (t : Bool) : Option Mv := if lineOf w 10 then moveF w t else none
theorem specGameMove_spec (w : Tx) (t : Bool) (hw : w.length ≤ 1048576) : Spec Tryd.prog 38 [.c (.str w), vb t] [] (isRes [.agg (mvC (mvO (moveAskF w t))), vb (moveAskF w t).isSome] []) := by
  have h1 := gaFew_spec w hw
  unfold moveAskF
  refine Spec.of_wpx tt_ok Tryd.func38 (by kernel_rfl) rfl ?_
  cases hq : lineOf w 10 with
  | true =>
    rw [hq] at h1
    have h2 := gaMove_spec w t (line_ok hq) (by have := line_len hq; omega) ([], []) okKn_nil
    rw [if_pos rfl]
    generalize moveF w t = mo at *
    unfold knB at h2
    have h2 := Spec.renE [(1000, 11), (1001, 2001), (1002, 2002), (1011, 2011), (1012, 2012)] [(11, 1000), (2001, 1001), (2002, 1002), (2011, 1011), (2012, 1012)] h2 (fun _ => rfl) (fun _ => rfl) rfl
    (repeat' ((conv => whnf); first | refine CondVC.t ?_ | refine CondVC.f ?_ | refine CondVC.dec (fun h => ?_) (fun h => ?_) | refine CondVC.ndec (fun h => ?_) (fun h => ?_) | refine CondVC.mk (fun h => ?_) (fun h => ?_) | refine ArVC.i64 (by first | omega | (simp only; omega)) ?_ | refine SideVC.mk (by first | omega | decide | (simp only; omega) | (simp [slS]; done) | (simp [slS]; omega) | (simp only [byteE_len, mvE_len, strE_len, intE_len, esC_len, List.length_cons, List.length_nil, List.length_append, List.length_replicate, List.length_set, Int.toNat_natCast, and_true] at *; omega)) ?_ | refine LoopN.go ?_ | exact trivial | refine AltVC.mk ?_ ?_ | refine HeldVC.mk rfl ?_ | refine CallVC.pure h1 rfl ?_ | (refine CallVC.nil 2001 9 1 [.c (.ptr 11 0), .c (.str w), vb t] [(11, .box 61 [.sl 2001, .val (.slice none 0 0)]), (4, .box 47 [.int .i64 0, .int .i64 0])] rfl rfl rfl ?_; refine CallVC.nil 2002 4 1 [.c (.ptr 11 0), .c (.str w), vb t] [(2001, .sl 9 1 []), (11, .box 61 [.sl 2001, .sl 2002]), (4, .box 47 [.int .i64 0, .int .i64 0])] rfl rfl rfl ?_; refine CallVC.ex [11, 2001, 2002] rfl h2 ?_; intro x1 hx1; refine ⟨rfl, ?_⟩) | refine OpVC.more tt_ok ?_ | refine RestVC.ext tt_ok ?_)); all_goals (conv => whnf)
    all_goals exact RetVC.res rfl rfl
  | false =>
    rw [hq] at h1
    (repeat' ((conv => whnf); first | refine CondVC.t ?_ | refine CondVC.f ?_ | refine CondVC.dec (fun h => ?_) (fun h => ?_) | refine CondVC.ndec (fun h => ?_) (fun h => ?_) | refine CondVC.mk (fun h => ?_) (fun h => ?_) | refine ArVC.i64 (by first | omega | (simp only; omega)) ?_ | refine SideVC.mk (by first | omega | decide | (simp only; omega) | (simp [slS]; done) | (simp [slS]; omega) | (simp only [byteE_len, mvE_len, strE_len, intE_len, esC_len, List.length_cons, List.length_nil, List.length_append, List.length_replicate, List.length_set, Int.toNat_natCast, and_true] at *; omega)) ?_ | refine LoopN.go ?_ | exact trivial | refine AltVC.mk ?_ ?_ | refine HeldVC.mk rfl ?_ | refine CallVC.pure h1 rfl ?_ | refine OpVC.more tt_ok ?_ | refine RestVC.ext tt_ok ?_)); all_goals (conv => whnf)
    all_goals exact RetVC.res rfl rfl
theorem implGameMove_spec (w : Tx) (t : Bool) (hw : w.length ≤ 1048576) : Spec Tryd.prog 39 [.c (.str w), vb t] [] (isRes [.agg (mvC (mvO (moveAskF w t))), vb (moveAskF w t).isSome] []) := by
  have h1 := isPlayed_spec w hw
  unfold moveAskF
  refine Spec.of_wpx tt_ok Tryd.func39 (by kernel_rfl) rfl ?_
  cases hq : lineOf w 10 with
  | true =>
    rw [hq] at h1
    have h2 := gamesMove_spec w t (by have := line_len hq; omega) [] okWin_nil
    rw [if_pos rfl]
    generalize moveF w t = mo at *
    have h2 := Spec.renE [(1000, 2000)] [(2000, 1000)] h2 (fun _ => rfl) (fun _ => rfl) rfl
    (repeat' ((conv => whnf); first | refine CondVC.t ?_ | refine CondVC.f ?_ | refine CondVC.dec (fun h => ?_) (fun h => ?_) | refine CondVC.ndec (fun h => ?_) (fun h => ?_) | refine CondVC.mk (fun h => ?_) (fun h => ?_) | refine ArVC.i64 (by first | omega | (simp only; omega)) ?_ | refine SideVC.mk (by first | omega | decide | (simp only; omega) | (simp [slS]; done) | (simp [slS]; omega) | (simp only [byteE_len, mvE_len, strE_len, intE_len, esC_len, List.length_cons, List.length_nil, List.length_append, List.length_replicate, List.length_set, Int.toNat_natCast, and_true] at *; omega)) ?_ | refine LoopN.go ?_ | exact trivial | refine AltVC.mk ?_ ?_ | refine HeldVC.mk rfl ?_ | refine CallVC.pure h1 rfl ?_ | refine CallVC.res [] rfl (Spec.ren [(1000, 2000)] [(2000, 1000)] newGames_spec rfl rfl rfl) rfl ?_ | (refine CallVC.ex [2000] rfl h2 ?_; intro x1 hx1; refine ⟨rfl, ?_⟩) | refine OpVC.more tt_ok ?_ | refine RestVC.ext tt_ok ?_)); all_goals (conv => whnf)
    all_goals exact RetVC.res rfl rfl
  | false =>
    rw [hq] at h1
    (repeat' ((conv => whnf); first | refine CondVC.t ?_ | refine CondVC.f ?_ | refine CondVC.dec (fun h => ?_) (fun h => ?_) | refine CondVC.ndec (fun h => ?_) (fun h => ?_) | refine CondVC.mk (fun h => ?_) (fun h => ?_) | refine ArVC.i64 (by first | omega | (simp only; omega)) ?_ | refine SideVC.mk (by first | omega | decide | (simp only; omega) | (simp [slS]; done) | (simp [slS]; omega) | (simp only [byteE_len, mvE_len, strE_len, intE_len, esC_len, List.length_cons, List.length_nil, List.length_append, List.length_replicate, List.length_set, Int.toNat_natCast, and_true] at *; omega)) ?_ | refine LoopN.go ?_ | exact trivial | refine AltVC.mk ?_ ?_ | refine HeldVC.mk rfl ?_ | refine CallVC.pure h1 rfl ?_ | refine OpVC.more tt_ok ?_ | refine RestVC.ext tt_ok ?_)); all_goals (conv => whnf)
    all_goals exact RetVC.res rfl rfl
theorem lawGameMove_spec (w : Tx) (hw : w.length ≤ 9223372036854775807) (t : Bool) : Spec Tryd.prog 12 [.c (.str w), vb t] [] (isRes [vb true] []) := by
  refine Spec.of_wpx tt_ok Tryd.func12 (by kernel_rfl) rfl ?_
  by_cases hb : w.length ≤ 1048576
  · have h1 := specGameMove_spec w t hb
    have h2 := implGameMove_spec w t hb
    have he := eqMove_spec (mvO (moveAskF w t)) (mvO (moveAskF w t))
    rw [decide_eq_true rfl] at he
    generalize mvO (moveAskF w t) = m at *
    generalize (moveAskF w t).isSome = b at *
    cases b
    all_goals
      (repeat' ((conv => whnf); first | refine CondVC.t ?_ | refine CondVC.f ?_ | refine CondVC.dec (fun h => ?_) (fun h => ?_) | refine CondVC.ndec (fun h => ?_) (fun h => ?_) | refine CondVC.mk (fun h => ?_) (fun h => ?_) | refine ArVC.i64 (by first | omega | (simp only; omega)) ?_ | refine SideVC.mk (by first | omega | decide | (simp only; omega) | (simp [slS]; done) | (simp [slS]; omega) | (simp only [byteE_len, mvE_len, strE_len, intE_len, esC_len, List.length_cons, List.length_nil, List.length_append, List.length_replicate, List.length_set, Int.toNat_natCast, and_true] at *; omega)) ?_ | refine LoopN.go ?_ | exact trivial | refine AltVC.mk ?_ ?_ | refine HeldVC.mk rfl ?_ | refine CallVC.pure h1 rfl ?_ | refine CallVC.pure h2 rfl ?_ | refine CallVC.pure he rfl ?_ | refine OpVC.more tt_ok ?_ | refine RestVC.ext tt_ok ?_)); all_goals (conv => whnf)
      all_goals first | exact RetVC.res rfl rfl | (exfalso; omega) | (exfalso; simp_all; done)
  · (repeat' ((conv => whnf); first | refine CondVC.t ?_ | refine CondVC.f ?_ | refine CondVC.dec (fun h => ?_) (fun h => ?_) | refine CondVC.ndec (fun h => ?_) (fun h => ?_) | refine CondVC.mk (fun h => ?_) (fun h => ?_) | refine ArVC.i64 (by first | omega | (simp only; omega)) ?_ | refine SideVC.mk (by first | omega | decide | (simp only; omega) | (simp [slS]; done) | (simp [slS]; omega) | (simp only [byteE_len, mvE_len, strE_len, intE_len, esC_len, List.length_cons, List.length_nil, List.length_append, List.length_replicate, List.length_set, Int.toNat_natCast, and_true] at *; omega)) ?_ | refine LoopN.go ?_ | exact trivial | refine AltVC.mk ?_ ?_ | refine HeldVC.mk rfl ?_ | refine OpVC.more tt_ok ?_ | refine RestVC.ext tt_ok ?_)); all_goals (conv => whnf)
    all_goals first | exact RetVC.res rfl rfl | (exfalso; omega)

/-! ### Plays -/
def playG (w : Tx) (t : Bool) : List Mv := match h : moveF w t with
  | none => []
  | some m => m :: playG (madeF w m) (!t)
termination_by wayF w
decreasing_by exact way_made (moveF_mem h)
theorem playG_none {w : Tx} {t : Bool} (h : moveF w t = none) : playG w t = [] := by
  rw [playG]; split
  · rfl
  · rename_i m h2; rw [h] at h2; cases h2
theorem playG_some {w : Tx} {t : Bool} {m : Mv} (h : moveF w t = some m) : playG w t = m :: playG (madeF w m) (!t) := by
  rw [playG]; split
  · rename_i h2; rw [h] at h2; cases h2
  · rename_i m' h2; rw [h] at h2; cases h2; rfl
theorem playG_len : ∀ (n : Nat) (w : Tx) (t : Bool), wayF w ≤ n → (playG w t).length ≤ wayF w
  | n, w, t, hn => by
    cases h : moveF w t with
    | none => rw [playG_none h]; simp
    | some m =>
      have hw := way_made (moveF_mem h)
      rw [playG_some h, List.length_cons]
      cases n with
      | zero => omega
      | succ n =>
        have := playG_len n (madeF w m) (!t) (by omega)
        omega
def playGAskF (w : Tx) (t : Bool) : List Mv := if lineOf w 10 then playG w t else []
theorem playGAsk_len (w : Tx) (t : Bool) : (playGAskF w t).length ≤ 100 := by
  unfold playGAskF
  by_cases h : lineOf w 10 = true
  · rw [if_pos h]
    have h1 := playG_len _ w t (Nat.le_refl _)
    have h2 := wayF_le w
    have h3 := line_len h
    have h4 : w.length * w.length ≤ 10 * 10 := Nat.mul_le_mul (by omega) (by omega)
    omega
  · rw [if_neg h]; simp

theorem specGamePlay_spec (w : Tx) (t : Bool) (hw : w.length ≤ 1048576) : Spec Tryd.prog 41 [.c (.str w), vb t] [] (isRes [.c (.sl 1001), vb (lineOf w 10)] [(1001, .sl 47 2 (mvE (playGAskF w t)))]) := by
  have h1 := gaFew_spec w hw
  have hq100 := playGAsk_len w t
  unfold playGAskF at *
  refine Spec.of_wpx tt_ok Tryd.func41 (by kernel_rfl) rfl ?_
  cases hq : lineOf w 10 with
  | true =>
    rw [hq] at h1
    rw [hq, if_pos rfl] at hq100
    rw [if_pos rfl]
    have hokw := line_ok hq
    have hlw := line_len hq
    generalize hQ : playG w t = Q at *
    (repeat' ((conv => whnf); first | refine CondVC.t ?_ | refine CondVC.f ?_ | refine CondVC.dec (fun h => ?_) (fun h => ?_) | refine CondVC.ndec (fun h => ?_) (fun h => ?_) | refine CondVC.mk (fun h => ?_) (fun h => ?_) | refine ArVC.i64 (by first | omega | (simp only; omega)) ?_ | refine SideVC.mk (by first | omega | decide | (simp only; omega) | (simp [slS]; done) | (simp [slS]; omega) | (simp only [byteE_len, mvE_len, strE_len, intE_len, esC_len, List.length_cons, List.length_nil, List.length_append, List.length_replicate, List.length_set, Int.toNat_natCast, and_true] at *; omega)) ?_ | refine LoopN.go ?_ | exact trivial | refine AltVC.mk ?_ ?_ | refine HeldVC.mk rfl ?_ | refine CallVC.pure h1 rfl ?_ | refine OpVC.more tt_ok ?_ | refine RestVC.ext tt_ok ?_)); all_goals (conv => whnf)
    refine LoopVC.mk (G := (Tx × Bool) × List Mv × Kn) (fun g => ⟨[(7, .v (.c (.sl 1001))), (6, .v (.c (.ptr 14 0))), (1, .v (vb g.1.2)), (0, .v (.c (.str g.1.1)))],
        [(1001, .sl 47 2 (mvE g.2.1)), (14, .box 61 [.sl 2001, .sl 2002]), (2001, .sl 9 1 (strE g.2.2.1)), (2002, .sl 4 1 (boolE g.2.2.2))]⟩)
      (fun g => g.1.1.all okCh = true ∧ g.1.1.length = w.length ∧ okKn g.2.2 ∧ Q = g.2.1 ++ playG g.1.1 g.1.2) (fun g => wayF g.1.1) ((w, t), [], ([], [])) ⟨hokw, rfl, okKn_nil, hQ.symm⟩
      (Sub.trans (t := ⟨[(7, .v (.c (.sl 1001))), (6, .v (.c (.ptr 14 0))), (1, .v (vb t)), (0, .v (.c (.str w)))], [(1001, .sl 47 2 []), (14, .box 61 [.val (.slice none 0 0), .val (.slice none 0 0)])]⟩)
        (Sub.nil 1001 47 2 ⟨rfl, rfl, rfl, rfl, trivial⟩ rfl rfl)
        (Sub.trans (t := ⟨[(7, .v (.c (.sl 1001))), (6, .v (.c (.ptr 14 0))), (1, .v (vb t)), (0, .v (.c (.str w)))], [(2001, .sl 9 1 []), (1001, .sl 47 2 []), (14, .box 61 [.sl 2001, .val (.slice none 0 0)])]⟩)
          (Sub.nil 2001 9 1 ⟨rfl, rfl, rfl, rfl, trivial⟩ rfl rfl)
          (Sub.trans (t := ⟨[(7, .v (.c (.sl 1001))), (6, .v (.c (.ptr 14 0))), (1, .v (vb t)), (0, .v (.c (.str w)))], [(2002, .sl 4 1 []), (2001, .sl 9 1 []), (1001, .sl 47 2 []), (14, .box 61 [.sl 2001, .sl 2002])]⟩)
            (Sub.nil 2002 4 1 ⟨rfl, rfl, rfl, rfl, trivial⟩ rfl rfl)
            (Sub.mk [] [] ⟨rfl, rfl, rfl, rfl, trivial⟩ rfl rfl)))) ?_
    rintro ⟨⟨v, u⟩, l, x⟩ ⟨hok, hl, hx, hP⟩
    simp only at hok hl hx hP
    have h2 := gaMove_spec v u hok (by omega) x hx
    unfold knB at h2
    have h2 := Spec.renE [(1000, 14), (1001, 2001), (1002, 2002), (1011, 2011), (1012, 2012)] [(14, 1000), (2001, 1001), (2002, 1002), (2011, 1011), (2012, 1012)] h2 (fun _ => rfl) (fun _ => rfl) rfl
    have hlq : l.length ≤ Q.length := by rw [hP]; simp
    cases hm : moveF v u with
    | none =>
      rw [hm] at h2
      rw [playG_none hm, List.append_nil] at hP
      (repeat' ((conv => whnf); first | refine CondVC.t ?_ | refine CondVC.f ?_ | refine CondVC.dec (fun h => ?_) (fun h => ?_) | refine CondVC.ndec (fun h => ?_) (fun h => ?_) | refine CondVC.mk (fun h => ?_) (fun h => ?_) | refine ArVC.i64 (by first | omega | (simp only; omega)) ?_ | refine SideVC.mk (by first | omega | decide | (simp only; omega) | (simp [slS]; done) | (simp [slS]; omega) | (simp only [byteE_len, mvE_len, strE_len, intE_len, esC_len, List.length_cons, List.length_nil, List.length_append, List.length_replicate, List.length_set, Int.toNat_natCast, and_true] at *; omega)) ?_ | refine LoopN.go ?_ | exact trivial | refine AltVC.mk ?_ ?_ | refine HeldVC.mk rfl ?_ | (refine CallVC.ex [14, 2001, 2002] rfl h2 ?_; intro x1 hx1; refine ⟨rfl, ?_⟩) | refine OpVC.more tt_ok ?_ | refine RestVC.ext tt_ok ?_)); all_goals (conv => whnf)
      all_goals exact RetVC.res rfl (by rw [hP]; rfl)
    | some m =>
      rw [hm] at h2
      have hmm := moveF_mem hm
      obtain ⟨m1, m2, m3⟩ := movesF_in hmm
      have h3 := liMake_spec v m m1 m2 m3 (by omega)
      have hwy := way_made hmm
      have hok2 := okCh_made (m := m) hok (by omega)
      have hl2 := madeF_len v m
      rw [playG_some hm] at hP
      have el : mvE (l ++ [m]) = mvE l ++ [mvC m] := by rw [mvE_append]; rfl
      (repeat' ((conv => whnf); first | refine CondVC.t ?_ | refine CondVC.f ?_ | refine CondVC.dec (fun h => ?_) (fun h => ?_) | refine CondVC.ndec (fun h => ?_) (fun h => ?_) | refine CondVC.mk (fun h => ?_) (fun h => ?_) | refine ArVC.i64 (by first | omega | (simp only; omega)) ?_ | refine SideVC.mk (by first | omega | decide | (simp only; omega) | (simp [slS]; done) | (simp [slS]; omega) | (simp only [byteE_len, mvE_len, strE_len, intE_len, esC_len, List.length_cons, List.length_nil, List.length_append, List.length_replicate, List.length_set, Int.toNat_natCast, and_true] at *; omega)) ?_ | refine LoopN.go ?_ | exact trivial | refine AltVC.mk ?_ ?_ | refine HeldVC.mk rfl ?_ | (refine CallVC.ex [14, 2001, 2002] rfl h2 ?_; intro x1 hx1; refine ⟨rfl, ?_⟩) | refine CallVC.pure h3 rfl ?_ | refine SideVC.mk (by simp only [mvE_len, List.length_cons, List.length_nil] at *; omega) ?_ | refine OpVC.more tt_ok ?_ | refine RestVC.ext tt_ok ?_)); all_goals (conv => whnf)
      all_goals exact ⟨((madeF v m, !u), l ++ [m], x1), ⟨hok2, by rw [hl2]; exact hl, hx1, by rw [hP]; simp⟩, hwy, Sub.mk [(1001, 28), (2001, 2011), (2002, 2012)] _ ⟨rfl, rfl, rfl, rfl, trivial⟩ (by simp only [el]; rfl) rfl⟩
  | false =>
    rw [hq] at h1
    (repeat' ((conv => whnf); first | refine CondVC.t ?_ | refine CondVC.f ?_ | refine CondVC.dec (fun h => ?_) (fun h => ?_) | refine CondVC.ndec (fun h => ?_) (fun h => ?_) | refine CondVC.mk (fun h => ?_) (fun h => ?_) | refine ArVC.i64 (by first | omega | (simp only; omega)) ?_ | refine SideVC.mk (by first | omega | decide | (simp only; omega) | (simp [slS]; done) | (simp [slS]; omega) | (simp only [byteE_len, mvE_len, strE_len, intE_len, esC_len, List.length_cons, List.length_nil, List.length_append, List.length_replicate, List.length_set, Int.toNat_natCast, and_true] at *; omega)) ?_ | refine LoopN.go ?_ | exact trivial | refine AltVC.mk ?_ ?_ | refine HeldVC.mk rfl ?_ | refine CallVC.pure h1 rfl ?_ | refine OpVC.more tt_ok ?_ | refine RestVC.ext tt_ok ?_)); all_goals (conv => whnf)
    all_goals exact RetVC.nil 1001 47 2 [.c (.sl 1001), vb false] [] rfl rfl rfl (RetVC.res rfl rfl)
theorem implGamePlay_spec (w : Tx) (t : Bool) (hw : w.length ≤ 1048576) : Spec Tryd.prog 42 [.c (.str w), vb t] [] (isRes [.c (.sl 1001), vb (lineOf w 10)] [(1001, .sl 47 2 (mvE (playGAskF w t)))]) := by
  have h1 := isPlayed_spec w hw
  have hq100 := playGAsk_len w t
  unfold playGAskF at *
  refine Spec.of_wpx tt_ok Tryd.func42 (by kernel_rfl) rfl ?_
  cases hq : lineOf w 10 with
  | true =>
    rw [hq] at h1
    rw [hq, if_pos rfl] at hq100
    rw [if_pos rfl]
    have hlw := line_len hq
    generalize hQ : playG w t = Q at *
    (repeat' ((conv => whnf); first | refine CondVC.t ?_ | refine CondVC.f ?_ | refine CondVC.dec (fun h => ?_) (fun h => ?_) | refine CondVC.ndec (fun h => ?_) (fun h => ?_) | refine CondVC.mk (fun h => ?_) (fun h => ?_) | refine ArVC.i64 (by first | omega | (simp only; omega)) ?_ | refine SideVC.mk (by first | omega | decide | (simp only; omega) | (simp [slS]; done) | (simp [slS]; omega) | (simp only [byteE_len, mvE_len, strE_len, intE_len, esC_len, List.length_cons, List.length_nil, List.length_append, List.length_replicate, List.length_set, Int.toNat_natCast, and_true] at *; omega)) ?_ | refine LoopN.go ?_ | exact trivial | refine AltVC.mk ?_ ?_ | refine HeldVC.mk rfl ?_ | refine CallVC.pure h1 rfl ?_ | refine CallVC.res [] rfl (Spec.ren [(1000, 2000)] [(2000, 1000)] newGames_spec rfl rfl rfl) rfl ?_ | refine OpVC.more tt_ok ?_ | refine RestVC.ext tt_ok ?_)); all_goals (conv => whnf)
    refine LoopVC.mk (G := (Tx × Bool) × List Mv × List (C × V)) (fun g => ⟨[(7, .v (.c (.sl 1001))), (6, .v (.c (.ptr 6 0))), (1, .v (vb g.1.2)), (0, .v (.c (.str g.1.1)))],
        [(1001, .sl 47 2 (mvE g.2.1)), (6, .box 65 [.mp 2000]), (2000, .ext (.mp none g.2.2))]⟩)
      (fun g => g.1.1.length = w.length ∧ okWin g.2.2 ∧ Q = g.2.1 ++ playG g.1.1 g.1.2) (fun g => wayF g.1.1) ((w, t), [], []) ⟨rfl, okWin_nil, hQ.symm⟩
      (Sub.mk [(1001, 14)] _ ⟨rfl, rfl, rfl, rfl, trivial⟩ rfl rfl) ?_
    rintro ⟨⟨v, u⟩, l, x⟩ ⟨hl, hx, hP⟩
    simp only at hl hx hP
    have h2 := gamesMove_spec v u (by omega) x hx
    have h2 := Spec.renE [(1000, 2000)] [(2000, 1000)] h2 (fun _ => rfl) (fun _ => rfl) rfl
    have hlq : l.length ≤ Q.length := by rw [hP]; simp
    cases hm : moveF v u with
    | none =>
      rw [hm] at h2
      rw [playG_none hm, List.append_nil] at hP
      (repeat' ((conv => whnf); first | refine CondVC.t ?_ | refine CondVC.f ?_ | refine CondVC.dec (fun h => ?_) (fun h => ?_) | refine CondVC.ndec (fun h => ?_) (fun h => ?_) | refine CondVC.mk (fun h => ?_) (fun h => ?_) | refine ArVC.i64 (by first | omega | (simp only; omega)) ?_ | refine SideVC.mk (by first | omega | decide | (simp only; omega) | (simp [slS]; done) | (simp [slS]; omega) | (simp only [byteE_len, mvE_len, strE_len, intE_len, esC_len, List.length_cons, List.length_nil, List.length_append, List.length_replicate, List.length_set, Int.toNat_natCast, and_true] at *; omega)) ?_ | refine LoopN.go ?_ | exact trivial | refine AltVC.mk ?_ ?_ | refine HeldVC.mk rfl ?_ | (refine CallVC.ex [2000] rfl h2 ?_; intro x1 hx1; refine ⟨rfl, ?_⟩) | refine OpVC.more tt_ok ?_ | refine RestVC.ext tt_ok ?_)); all_goals (conv => whnf)
      all_goals exact RetVC.res rfl (by rw [hP]; rfl)
    | some m =>
      rw [hm] at h2
      have hmm := moveF_mem hm
      obtain ⟨m1, m2, m3⟩ := movesF_in hmm
      have h3 := made_spec v m m1 m2 (by omega)
      have hwy := way_made hmm
      have hl2 := madeF_len v m
      rw [playG_some hm] at hP
      have el : mvE (l ++ [m]) = mvE l ++ [mvC m] := by rw [mvE_append]; rfl
      (repeat' ((conv => whnf); first | refine CondVC.t ?_ | refine CondVC.f ?_ | refine CondVC.dec (fun h => ?_) (fun h => ?_) | refine CondVC.ndec (fun h => ?_) (fun h => ?_) | refine CondVC.mk (fun h => ?_) (fun h => ?_) | refine ArVC.i64 (by first | omega | (simp only; omega)) ?_ | refine SideVC.mk (by first | omega | decide | (simp only; omega) | (simp [slS]; done) | (simp [slS]; omega) | (simp only [byteE_len, mvE_len, strE_len, intE_len, esC_len, List.length_cons, List.length_nil, List.length_append, List.length_replicate, List.length_set, Int.toNat_natCast, and_true] at *; omega)) ?_ | refine LoopN.go ?_ | exact trivial | refine AltVC.mk ?_ ?_ | refine HeldVC.mk rfl ?_ | (refine CallVC.ex [2000] rfl h2 ?_; intro x1 hx1; refine ⟨rfl, ?_⟩) | refine CallVC.pure h3 rfl ?_ | refine SideVC.mk (by simp only [mvE_len, List.length_cons, List.length_nil] at *; omega) ?_ | refine OpVC.more tt_ok ?_ | refine RestVC.ext tt_ok ?_)); all_goals (conv => whnf)
      all_goals exact ⟨((madeF v m, !u), l ++ [m], x1), ⟨by rw [hl2]; exact hl, hx1, by rw [hP]; simp⟩, hwy, Sub.mk [(1001, 28)] _ ⟨rfl, rfl, rfl, rfl, trivial⟩ (by simp only [el]; rfl) rfl⟩
  | false =>
    rw [hq] at h1
    (repeat' ((conv => whnf); first | refine CondVC.t ?_ | refine CondVC.f ?_ | refine CondVC.dec (fun h => ?_) (fun h => ?_) | refine CondVC.ndec (fun h => ?_) (fun h => ?_) | refine CondVC.mk (fun h => ?_) (fun h => ?_) | refine ArVC.i64 (by first | omega | (simp only; omega)) ?_ | refine SideVC.mk (by first | omega | decide | (simp only; omega) | (simp [slS]; done) | (simp [slS]; omega) | (simp only [byteE_len, mvE_len, strE_len, intE_len, esC_len, List.length_cons, List.length_nil, List.length_append, List.length_replicate, List.length_set, Int.toNat_natCast, and_true] at *; omega)) ?_ | refine LoopN.go ?_ | exact trivial | refine AltVC.mk ?_ ?_ | refine HeldVC.mk rfl ?_ | refine CallVC.pure h1 rfl ?_ | refine OpVC.more tt_ok ?_ | refine RestVC.ext tt_ok ?_)); all_goals (conv => whnf)
    all_goals exact RetVC.nil 1001 47 2 [.c (.sl 1001), vb false] [] rfl rfl rfl (RetVC.res rfl rfl)
theorem lawGamePlay_spec (w : Tx) (hw : w.length ≤ 9223372036854775807) (t : Bool) : Spec Tryd.prog 13 [.c (.str w), vb t] [] (isRes [vb true] []) := by
  refine Spec.of_wpx tt_ok Tryd.func13 (by kernel_rfl) rfl ?_
  by_cases hb : w.length ≤ 1048576
  · have h1 := specGamePlay_spec w t hb
    have h2 := implGamePlay_spec w t hb
    have hl : (playGAskF w t).length ≤ 1048576 := by have := playGAsk_len w t; omega
    generalize playGAskF w t = l at *
    generalize lineOf w 10 = b at *
    cases b
    all_goals
      (repeat' ((conv => whnf); first | refine CondVC.t ?_ | refine CondVC.f ?_ | refine CondVC.dec (fun h => ?_) (fun h => ?_) | refine CondVC.ndec (fun h => ?_) (fun h => ?_) | refine CondVC.mk (fun h => ?_) (fun h => ?_) | refine ArVC.i64 (by first | omega | (simp only; omega)) ?_ | refine SideVC.mk (by first | omega | decide | (simp only; omega) | (simp [slS]; done) | (simp [slS]; omega) | (simp only [byteE_len, mvE_len, strE_len, intE_len, esC_len, List.length_cons, List.length_nil, List.length_append, List.length_replicate, List.length_set, Int.toNat_natCast, and_true] at *; omega)) ?_ | refine LoopN.go ?_ | exact trivial | refine AltVC.mk ?_ ?_ | refine HeldVC.mk rfl ?_ | refine CallVC.res [] rfl (Spec.ren [(1001, 2001)] [(2001, 1001)] h1 rfl rfl rfl) rfl ?_ | refine CallVC.res [] rfl (Spec.ren [(1001, 2002)] [(2002, 1001)] h2 rfl rfl rfl) rfl ?_ | refine CallVC.res [] rfl (Spec.ren [(1001, 2003)] [(2003, 1001)] h2 rfl rfl rfl) rfl ?_ | refine CallVC.res [2002, 2001] rfl (Spec.ren [(1000, 2002), (1001, 2001)] [(2002, 1000), (2001, 1001)] (eqMoveS_self l (by omega)) rfl rfl rfl) rfl ?_ | refine CallVC.res [2003, 2001] rfl (Spec.ren [(1000, 2003), (1001, 2001)] [(2003, 1000), (2001, 1001)] (eqMoveS_self l (by omega)) rfl rfl rfl) rfl ?_ | refine CallVC.res [2002] rfl (Spec.ren [(1000, 2002)] [(2002, 1000)] (markMoveS_spec l 1 (by omega) (by omega)) rfl rfl rfl) rfl ?_ | refine CallVC.res [2002] rfl (Spec.ren [(1000, 2002)] [(2002, 1000)] (heldMoveS_spec l.length 1 (by omega) (by omega)) rfl rfl rfl) rfl ?_ | refine OpVC.more tt_ok ?_ | refine RestVC.ext tt_ok ?_)); all_goals (conv => whnf)
    all_goals first | exact RetVC.res rfl rfl | (exfalso; omega) | (exfalso; simp_all; done)
  · (repeat' ((conv => whnf); first | refine CondVC.t ?_ | refine CondVC.f ?_ | refine CondVC.dec (fun h => ?_) (fun h => ?_) | refine CondVC.ndec (fun h => ?_) (fun h => ?_) | refine CondVC.mk (fun h => ?_) (fun h => ?_) | refine ArVC.i64 (by first | omega | (simp only; omega)) ?_ | refine SideVC.mk (by first | omega | decide | (simp only; omega) | (simp [slS]; done) | (simp [slS]; omega) | (simp only [byteE_len, mvE_len, strE_len, intE_len, esC_len, List.length_cons, List.length_nil, List.length_append, List.length_replicate, List.length_set, Int.toNat_natCast, and_true] at *; omega)) ?_ | refine LoopN.go ?_ | exact trivial | refine AltVC.mk ?_ ?_ | refine HeldVC.mk rfl ?_ | refine OpVC.more tt_ok ?_ | refine RestVC.ext tt_ok ?_)); all_goals (conv => whnf)
    all_goals first | exact RetVC.res rfl rfl | (exfalso; omega)
end Go.Proofs.YtjpabjmcooiflaaDoor.X
