/- Who wins: the reference's recursion over lines, with its memo. No condition beyond each statement's. -/
import Derived.Test.YtmdipjoogcdngaaDoorWinS
namespace Go.Proofs.YtmdipjoogcdngaaDoor.X
open Go.Proofs
set_option maxRecDepth 100000
set_option linter.unusedVariables false
set_option linter.unusedSimpArgs false

def knM (x : Kn) (ls : List Tx) : Mem := [(1000, .box 182 [.sl 1001, .sl 1002]), (1001, .sl 9 1 (strE x.1)), (1002, .sl 4 1 (boolE x.2)), (1003, .sl 9 1 (strE ls))]
/-- What is left: the rows under other names. -/
def knR (x : Kn) (ls : List Tx) : Mem := [(1000, .box 182 [.sl 1011, .sl 1012]), (1011, .sl 9 1 (strE x.1)), (1012, .sl 4 1 (boolE x.2)), (1003, .sl 9 1 (strE ls))]
def GameS (ls : List Tx) (t : Bool) : Prop := ∀ x0, okKn x0 → Spec Tryd.prog 199 [.c (.ptr 1000 0), .c (.sl 1003), vb t] (knM x0 ls)
  (exRes (fun x => okKn x ∧ Added x0 (wayF (joinF ls) + 1) x) (fun _ => [vb (winF (joinF ls) t)]) (fun x => knR x ls))

theorem game_spec : ∀ (n : Nat) (ls : List Tx) (t : Bool), wayF (joinF ls) < n → okLs ls → GameS ls t
  | 0, ls, t, hn, _ => absurd hn (Nat.not_lt_zero _)
  | n + 1, ls, t, hn, hls => by
    intro x0 hx0
    have hkey := gaKey_spec ls t hls
    have hget : ∀ {x : Kn} (i : Nat) (hi : i < x.1.length), okKn x → x.1[i] = keyF t ls → x.2[i]? = some (winF (joinF ls) t) := fun i hi hx he => okKn_get hx hls hi he
    have hadd : ∀ x, okKn x → Added x0 (wayF (joinF ls)) x → keyF t ls ∉ x0.1 → okKn (x.1 ++ [keyF t ls], x.2 ++ [winF (joinF ls) t]) ∧ Added x0 (wayF (joinF ls) + 1) (x.1 ++ [keyF t ls], x.2 ++ [winF (joinF ls) t]) := fun x h1 h2 h3 => ⟨okKn_add h1 hls h2 h3, Added_add hls h2⟩
    have hwin := win_join ls t
    have hW : ∀ k (hk : k < ls.length) m, m ∈ movesF ls[k] (kOf t) → GameS (ls.set k (madeF ls[k] m)) (!t) ∧ wayF (joinF (ls.set k (madeF ls[k] m))) < wayF (joinF ls) := fun k hk m hm =>
      have h1 := way_join hk hm
      ⟨game_spec n _ (!t) (by omega) (okLs_set hls hk (madeF_len _ _) (okCh_made (hls.1 _ (List.getElem_mem hk)) (by have := (movesF_in hm).1; omega))), h1⟩
    have hkl := (keyF_ok (t := t) hls).1
    have h3 := hls.2.2
    generalize hwf : winF (joinF ls) t = wf at *
    generalize hky : keyF t ls = key at *
    have hml := strE_len ls
    have hfinal : ∀ x', okKn x' → Added x0 (wayF (joinF ls)) x' → key ∉ x0.1 → exRes (fun x => okKn x ∧ Added x0 (wayF (joinF ls) + 1) x) (fun _ => [vb wf]) (fun x => [(1000, Res.box 182 [.sl 1011, .sl 1012]), (1011, .sl 9 1 (strE x.1)), (1012, .sl 4 1 (boolE x.2)), (1003, .sl 9 1 (strE ls))]) [vb wf]
        [(1000, .box 182 [.sl 1011, .sl 1012]), (1011, .sl 9 1 (strE x'.1 ++ [[.str key]])), (1012, .sl 4 1 (boolE x'.2 ++ [[.bool wf]])), (1003, .sl 9 1 (strE ls))] := fun x' h1 h2 h3 =>
      ⟨(x'.1 ++ [key], x'.2 ++ [wf]), hadd x' h1 h2 h3, rfl, by simp only [strE_append, boolE_append]; rfl⟩
    unfold knM knR
    refine Spec.of_wpx tt_ok Tryd.func199 (by kernel_rfl) rfl ?_
    (repeat' ((conv => whnf); first | refine CondVC.t ?_ | refine CondVC.f ?_ | refine CondVC.dec (fun h => ?_) (fun h => ?_) | refine CondVC.ndec (fun h => ?_) (fun h => ?_) | refine CondVC.mk (fun h => ?_) (fun h => ?_) | refine ArVC.i64 (by first | omega | (simp only; omega)) ?_ | refine SideVC.mk (by first | omega | decide | (simp only; omega) | (simp [slS]; done) | (simp [slS]; omega) | (simp only [byteE_len, mvE_len, strE_len, intE_len, esC_len, List.length_cons, List.length_nil, List.length_append, List.length_replicate, List.length_set, Int.toNat_natCast, and_true] at *; omega)) ?_ | refine LoopN.go ?_ | exact trivial | refine AltVC.mk ?_ ?_ | refine HeldVC.mk rfl ?_ | refine CallVC.res [1003] rfl hkey rfl ?_ | refine OpVC.more tt_ok ?_ | refine RestVC.ext tt_ok ?_)); all_goals (conv => whnf)
    have hfew0 := okKn_few hx0
    have hk0 := strE_len x0.1
    have hb0 := boolE_len x0.2
    refine LoopVC.mk (G := Nat) (fun k => ⟨[(23, .v (i64 k)), (22, .v (i64 x0.1.length)), (21, .v (.c (.sl 1001))), (7, .v (.c (.str key))), (2, .v (vb t)), (1, .v (.c (.sl 1003))), (0, .v (.c (.ptr 1000 0)))],
        [(1000, .box 182 [.sl 1001, .sl 1002]), (1001, .sl 9 1 (strE x0.1)), (1002, .sl 4 1 (boolE x0.2)), (1003, .sl 9 1 (strE ls))]⟩)
      (fun k => k ≤ x0.1.length ∧ ∀ j (hj : j < x0.1.length), j < k → x0.1[j] ≠ key) (fun k => x0.1.length - k) 0 ⟨by omega, fun j hj h => by omega⟩ (Sub.mk [] _ ⟨rfl, by rw [hk0]; rfl, rfl, rfl, rfl, rfl, rfl, trivial⟩ rfl rfl) ?_
    intro k ⟨hk, hno⟩
    by_cases hlt : k < x0.1.length
    · have g1 : (strE x0.1)[(k : Int).toNat]? = some [.str x0.1[k]] := by rw [Int.toNat_natCast]; exact strE_get hlt
      by_cases he : x0.1[k] = key
      · have g2 : (boolE x0.2)[(k : Int).toNat]? = some [.bool wf] := by
          rw [Int.toNat_natCast]; unfold boolE; rw [List.getElem?_map, hget k hlt hx0 he]; rfl
        have hlen := hx0.1
        (repeat' ((conv => whnf); first | refine CondVC.t ?_ | refine CondVC.f ?_ | refine CondVC.dec (fun h => ?_) (fun h => ?_) | refine CondVC.ndec (fun h => ?_) (fun h => ?_) | refine CondVC.mk (fun h => ?_) (fun h => ?_) | refine ArVC.i64 (by first | omega | (simp only; omega)) ?_ | refine SideVC.mk (by first | omega | decide | (simp only; omega) | (simp [slS]; done) | (simp [slS]; omega) | (simp only [byteE_len, mvE_len, strE_len, intE_len, esC_len, List.length_cons, List.length_nil, List.length_append, List.length_replicate, List.length_set, Int.toNat_natCast, and_true] at *; omega)) ?_ | refine LoopN.go ?_ | exact trivial | refine AltVC.mk ?_ ?_ | refine HeldVC.mk rfl ?_ | refine LoadVC.mk _ g1 ?_ | refine LoadVC.mk _ g2 ?_ | refine SideVC.mk (by rw [hk0]; omega) ?_ | refine SideVC.mk (by rw [hb0]; omega) ?_ | refine OpVC.more tt_ok ?_ | refine RestVC.ext tt_ok ?_)); all_goals (conv => whnf)
        all_goals first
          | (exfalso; omega)
          | exact RetVC.ren [(1011, 1001), (1012, 1002)] [vb wf] [(1000, .box 182 [.sl 1011, .sl 1012]), (1011, .sl 9 1 (strE x0.1)), (1012, .sl 4 1 (boolE x0.2)), (1003, .sl 9 1 (strE ls))] rfl rfl rfl ⟨x0, ⟨hx0, Added.refl _ _⟩, rfl, rfl⟩
          | (exfalso; simp_all; done)
      · (repeat' ((conv => whnf); first | refine CondVC.t ?_ | refine CondVC.f ?_ | refine CondVC.dec (fun h => ?_) (fun h => ?_) | refine CondVC.ndec (fun h => ?_) (fun h => ?_) | refine CondVC.mk (fun h => ?_) (fun h => ?_) | refine ArVC.i64 (by first | omega | (simp only; omega)) ?_ | refine SideVC.mk (by first | omega | decide | (simp only; omega) | (simp [slS]; done) | (simp [slS]; omega) | (simp only [byteE_len, mvE_len, strE_len, intE_len, esC_len, List.length_cons, List.length_nil, List.length_append, List.length_replicate, List.length_set, Int.toNat_natCast, and_true] at *; omega)) ?_ | refine LoopN.go ?_ | exact trivial | refine AltVC.mk ?_ ?_ | refine HeldVC.mk rfl ?_ | refine LoadVC.mk _ g1 ?_ | refine SideVC.mk (by rw [hk0]; omega) ?_ | refine OpVC.more tt_ok ?_ | refine RestVC.ext tt_ok ?_)); all_goals (conv => whnf)
        all_goals first
          | (exfalso; omega)
          | (exfalso; simp_all; done)
          | exact ⟨k + 1, ⟨by omega, fun j hj h => by
              by_cases e : j = k
              · subst e; exact he
              · exact hno j hj (by omega)⟩, by omega, Sub.mk [] _ ⟨rfl, rfl, rfl, rfl, rfl, rfl, rfl, trivial⟩ rfl rfl⟩
    have hnot : key ∉ x0.1 := fun hm => by
      obtain ⟨j, hj, e⟩ := List.getElem_of_mem hm
      exact hno j hj (by omega) e
    have hfinal := fun x' h1 h2 => hfinal x' h1 h2 hnot
    (repeat' ((conv => whnf); first | refine CondVC.t ?_ | refine CondVC.f ?_ | refine CondVC.dec (fun h => ?_) (fun h => ?_) | refine CondVC.ndec (fun h => ?_) (fun h => ?_) | refine CondVC.mk (fun h => ?_) (fun h => ?_) | refine ArVC.i64 (by first | omega | (simp only; omega)) ?_ | refine SideVC.mk (by first | omega | decide | (simp only; omega) | (simp [slS]; done) | (simp [slS]; omega) | (simp only [byteE_len, mvE_len, strE_len, intE_len, esC_len, List.length_cons, List.length_nil, List.length_append, List.length_replicate, List.length_set, Int.toNat_natCast, and_true] at *; omega)) ?_ | refine LoopN.go ?_ | exact trivial | refine AltVC.mk ?_ ?_ | refine HeldVC.mk rfl ?_ | refine OpVC.more tt_ok ?_ | refine RestVC.ext tt_ok ?_)); all_goals (conv => whnf)
    · exfalso; omega
    -- over the lines
    refine LoopVC.mk (G := Nat × Kn) (fun g => ⟨[(41, .v (i64 g.1)), (40, .v (i64 ls.length)), (39, .v (.c (.sl 1003))), (10, .v (vb false)), (7, .v (.c (.str key))), (2, .v (vb t)), (1, .v (.c (.sl 1003))), (0, .v (.c (.ptr 1000 0)))],
        [(1000, .box 182 [.sl 3001, .sl 3002]), (3001, .sl 9 1 (strE g.2.1)), (3002, .sl 4 1 (boolE g.2.2)), (1003, .sl 9 1 (strE ls))]⟩)
      (fun g => g.1 ≤ ls.length ∧ okKn g.2 ∧ Added x0 (wayF (joinF ls)) g.2 ∧ ∀ j (hj : j < ls.length), j < g.1 → ∀ m ∈ movesF ls[j] (kOf t), winF (joinF (ls.set j (madeF ls[j] m))) (!t) = true)
      (fun g => ls.length - g.1) (0, x0) ⟨by omega, hx0, Added.refl _ _, fun j hj h => by simp at h⟩ (Sub.mk [(3001, 1001), (3002, 1002)] _ ⟨rfl, by rw [hml]; rfl, rfl, rfl, rfl, rfl, rfl, rfl, trivial⟩ rfl rfl) ?_
    rintro ⟨k, x⟩ ⟨hk, hx, hax, hall⟩
    simp only at hk hx hax hall
    have hfew := okKn_few hx
    have hkx := strE_len x.1
    have hbx := boolE_len x.2
    by_cases hlt : k < ls.length
    · have g1 : (strE ls)[(k : Int).toNat]? = some [.str ls[k]] := by rw [Int.toNat_natCast]; exact strE_get hlt
      have hokw := hls.1 _ (List.getElem_mem hlt)
      have hwl := sumF_mem (List.getElem_mem hlt)
      have hsl := hls.2.1
      have h5 := liMoves_spec ls[k] t (!t) hokw (by omega)
      rw [liMoves_eq hokw, kOf_kinds] at h5
      have hin : ∀ m ∈ movesF ls[k] (kOf t), _ := fun m hm => movesF_in hm
      have hll := movesF_len ls[k] (kOf t)
      have hWk := hW k hlt
      have hwk : (∃ m ∈ movesF ls[k] (kOf t), winF (joinF (ls.set k (madeF ls[k] m))) (!t) = false) → wf = true := fun ⟨m, hm, hf⟩ => hwin.2 ⟨k, hlt, m, hm, hf⟩
      have hallk : (∀ m ∈ movesF ls[k] (kOf t), winF (joinF (ls.set k (madeF ls[k] m))) (!t) = true) → ∀ j (hj : j < ls.length), j < k + 1 → ∀ m ∈ movesF ls[j] (kOf t), winF (joinF (ls.set j (madeF ls[j] m))) (!t) = true := fun h j hj hjk => by
        by_cases e : j = k
        · subst e; exact h
        · exact hall j hj (by omega)
      have hmk : ∀ m ∈ movesF ls[k] (kOf t), _ := fun m hm => liMake_spec ls[k] m (hin m hm).1 (hin m hm).2.1 (hin m hm).2.2 (by omega)
      generalize movesF ls[k] (kOf t) = l at *
      have hmvl := mvE_len l
      (repeat' ((conv => whnf); first | refine CondVC.t ?_ | refine CondVC.f ?_ | refine CondVC.dec (fun h => ?_) (fun h => ?_) | refine CondVC.ndec (fun h => ?_) (fun h => ?_) | refine CondVC.mk (fun h => ?_) (fun h => ?_) | refine ArVC.i64 (by first | omega | (simp only; omega)) ?_ | refine SideVC.mk (by first | omega | decide | (simp only; omega) | (simp [slS]; done) | (simp [slS]; omega) | (simp only [byteE_len, mvE_len, strE_len, intE_len, esC_len, List.length_cons, List.length_nil, List.length_append, List.length_replicate, List.length_set, Int.toNat_natCast, and_true] at *; omega)) ?_ | refine LoopN.go ?_ | exact trivial | refine AltVC.mk ?_ ?_ | refine HeldVC.mk rfl ?_ | refine LoadVC.mk _ g1 ?_ | refine SideVC.mk (by rw [hml]; omega) ?_ | refine CallVC.res [] rfl (Spec.ren [(1001, 2001)] [(2001, 1001)] h5 rfl rfl rfl) rfl ?_ | refine OpVC.more tt_ok ?_ | refine RestVC.ext tt_ok ?_)); all_goals (conv => whnf)
      rotate_left
      · exfalso; omega
      refine LoopVC.mk (G := Nat × Kn) (fun g => ⟨[(52, .v (i64 g.1)), (51, .v (i64 l.length)), (50, .v (.c (.sl 2001))), (12, .v (.c (.str ls[k]))), (11, .v (i64 k)), (41, .v (i64 k)), (40, .v (i64 ls.length)), (39, .v (.c (.sl 1003))), (10, .v (vb false)), (7, .v (.c (.str key))), (2, .v (vb t)), (1, .v (.c (.sl 1003))), (0, .v (.c (.ptr 1000 0)))],
          [(2001, .sl 53 2 (mvE l)), (1000, .box 182 [.sl 3001, .sl 3002]), (3001, .sl 9 1 (strE g.2.1)), (3002, .sl 4 1 (boolE g.2.2)), (1003, .sl 9 1 (strE ls))]⟩)
        (fun g => g.1 ≤ l.length ∧ okKn g.2 ∧ Added x0 (wayF (joinF ls)) g.2 ∧ ∀ j (hj : j < l.length), j < g.1 → winF (joinF (ls.set k (madeF ls[k] l[j]))) (!t) = true)
        (fun g => l.length - g.1) (0, x) ⟨by omega, hx, hax, fun j hj h => by simp at h⟩ (Sub.mk [] _ ⟨rfl, by rw [hmvl]; rfl, rfl, rfl, rfl, rfl, rfl, rfl, rfl, rfl, rfl, rfl, rfl, trivial⟩ rfl rfl) ?_
      rintro ⟨j, x⟩ ⟨hj, hx, hax, hjall⟩
      simp only at hj hx hax hjall
      by_cases hjl : j < l.length
      · have hmem := List.getElem_mem hjl
        have g2 : (mvE l)[(j : Int).toNat]? = some (mvC l[j]) := by rw [Int.toNat_natCast]; exact mvE_get hjl
        have h6 := hmk _ hmem
        have h7 := gaWith_spec ls k (madeF ls[k] l[j]) hlt (by omega)
        obtain ⟨h8, h9⟩ := hWk _ hmem
        have h8 := h8 x hx
        unfold knM knR at h8
        have h8 := Spec.renE [(1003, 2003), (1001, 3001), (1002, 3002), (1011, 3011), (1012, 3012)] [(2003, 1003), (3001, 1001), (3002, 1002), (3011, 1011), (3012, 1012)] h8 (fun _ => rfl) (fun _ => rfl) rfl
        have h7 := Spec.ren [(1000, 1003), (1001, 2003)] [(1003, 1000), (2003, 1001)] h7 rfl rfl rfl
        cases hb : winF (joinF (ls.set k (madeF ls[k] l[j]))) (!t) with
        | true =>
          rw [hb] at h8
          generalize ls.set k (madeF ls[k] l[j]) = ls' at h7 h8 h9
          generalize madeF ls[k] l[j] = w' at h6 h7
          (repeat' ((conv => whnf); first | refine CondVC.t ?_ | refine CondVC.f ?_ | refine CondVC.dec (fun h => ?_) (fun h => ?_) | refine CondVC.ndec (fun h => ?_) (fun h => ?_) | refine CondVC.mk (fun h => ?_) (fun h => ?_) | refine ArVC.i64 (by first | omega | (simp only; omega)) ?_ | refine SideVC.mk (by first | omega | decide | (simp only; omega) | (simp [slS]; done) | (simp [slS]; omega) | (simp only [byteE_len, mvE_len, strE_len, intE_len, esC_len, List.length_cons, List.length_nil, List.length_append, List.length_replicate, List.length_set, Int.toNat_natCast, and_true] at *; omega)) ?_ | refine LoopN.go ?_ | exact trivial | refine AltVC.mk ?_ ?_ | refine HeldVC.mk rfl ?_ | refine LoadVC.mk _ g2 ?_ | refine SideVC.mk (by rw [hmvl]; omega) ?_ | refine CallVC.pure h6 rfl ?_ | refine CallVC.res [1003] rfl h7 rfl ?_ | (refine CallVC.ex [1000, 3001, 3002, 2003] rfl h8 ?_; intro x' hx'; refine ⟨rfl, ?_⟩) | refine OpVC.more tt_ok ?_ | refine RestVC.ext tt_ok ?_)); all_goals (conv => whnf)
          all_goals first
            | (exfalso; omega)
            | skip
          exact ⟨(j + 1, x'), ⟨by omega, hx'.1, Added.trans (by omega) hax hx'.2, fun i hi h => by
              by_cases e : i = j
              · subst e; exact hb
              · exact hjall i hi (by omega)⟩, by simp only; omega, Sub.mk [(3001, 3011), (3002, 3012)] _ ⟨rfl, rfl, rfl, rfl, rfl, rfl, rfl, rfl, rfl, rfl, rfl, rfl, rfl, trivial⟩ rfl rfl⟩
        | false =>
          have hwf1 : wf = true := hwk ⟨_, hmem, hb⟩
          subst hwf1
          rw [hb] at h8
          generalize ls.set k (madeF ls[k] l[j]) = ls' at h7 h8 h9
          generalize madeF ls[k] l[j] = w' at h6 h7
          (repeat' ((conv => whnf); first | refine CondVC.t ?_ | refine CondVC.f ?_ | refine CondVC.dec (fun h => ?_) (fun h => ?_) | refine CondVC.ndec (fun h => ?_) (fun h => ?_) | refine CondVC.mk (fun h => ?_) (fun h => ?_) | refine ArVC.i64 (by first | omega | (simp only; omega)) ?_ | refine SideVC.mk (by first | omega | decide | (simp only; omega) | (simp [slS]; done) | (simp [slS]; omega) | (simp only [byteE_len, mvE_len, strE_len, intE_len, esC_len, List.length_cons, List.length_nil, List.length_append, List.length_replicate, List.length_set, Int.toNat_natCast, and_true] at *; omega)) ?_ | refine LoopN.go ?_ | exact trivial | refine AltVC.mk ?_ ?_ | refine HeldVC.mk rfl ?_ | refine LoadVC.mk _ g2 ?_ | refine SideVC.mk (by rw [hmvl]; omega) ?_ | refine CallVC.pure h6 rfl ?_ | refine CallVC.res [1003] rfl h7 rfl ?_ | (refine CallVC.ex [1000, 3001, 3002, 2003] rfl h8 ?_; intro x' hx'; refine ⟨rfl, ?_⟩; have hf' := okKn_few hx'.1; have hk' := strE_len x'.1; have hb' := boolE_len x'.2) | refine SideVC.mk (by rw [hk']; omega) ?_ | refine SideVC.mk (by rw [hb']; omega) ?_ | refine SideVC.mk (by simp only [strE_len, boolE_len, List.length_cons, List.length_nil] at *; omega) ?_ | refine OpVC.more tt_ok ?_ | refine RestVC.ext tt_ok ?_)); all_goals (conv => whnf)
          all_goals first
            | (exfalso; omega)
            | exact RetVC.ren [(1011, 77), (1012, 87)] [vb true] _ rfl rfl rfl (hfinal x' hx'.1 (Added.trans (by omega) hax hx'.2))
      · have hl2 := hallk fun m hm => by
          obtain ⟨i, hi, rfl⟩ := List.getElem_of_mem hm
          exact hjall i hi (by omega)
        (repeat' ((conv => whnf); first | refine CondVC.t ?_ | refine CondVC.f ?_ | refine CondVC.dec (fun h => ?_) (fun h => ?_) | refine CondVC.ndec (fun h => ?_) (fun h => ?_) | refine CondVC.mk (fun h => ?_) (fun h => ?_) | refine ArVC.i64 (by first | omega | (simp only; omega)) ?_ | refine SideVC.mk (by first | omega | decide | (simp only; omega) | (simp [slS]; done) | (simp [slS]; omega) | (simp only [byteE_len, mvE_len, strE_len, intE_len, esC_len, List.length_cons, List.length_nil, List.length_append, List.length_replicate, List.length_set, Int.toNat_natCast, and_true] at *; omega)) ?_ | refine LoopN.go ?_ | exact trivial | refine AltVC.mk ?_ ?_ | refine HeldVC.mk rfl ?_ | refine OpVC.more tt_ok ?_ | refine RestVC.ext tt_ok ?_)); all_goals (conv => whnf)
        · exfalso; omega
        exact ⟨(k + 1, x), ⟨by omega, hx, hax, hl2⟩, by simp only; omega, Sub.mk [] _ ⟨rfl, rfl, rfl, rfl, rfl, rfl, rfl, rfl, trivial⟩ rfl rfl⟩
    · have hwf0 : wf = false := by
        cases hw : wf with
        | false => rfl
        | true =>
          obtain ⟨i, hi, m, hm, hf⟩ := hwin.1 hw
          rw [hall i hi (by omega) m hm] at hf
          cases hf
      subst hwf0
      (repeat' ((conv => whnf); first | refine CondVC.t ?_ | refine CondVC.f ?_ | refine CondVC.dec (fun h => ?_) (fun h => ?_) | refine CondVC.ndec (fun h => ?_) (fun h => ?_) | refine CondVC.mk (fun h => ?_) (fun h => ?_) | refine ArVC.i64 (by first | omega | (simp only; omega)) ?_ | refine SideVC.mk (by first | omega | decide | (simp only; omega) | (simp [slS]; done) | (simp [slS]; omega) | (simp only [byteE_len, mvE_len, strE_len, intE_len, esC_len, List.length_cons, List.length_nil, List.length_append, List.length_replicate, List.length_set, Int.toNat_natCast, and_true] at *; omega)) ?_ | refine LoopN.go ?_ | exact trivial | refine AltVC.mk ?_ ?_ | refine HeldVC.mk rfl ?_ | refine SideVC.mk (by simp only [strE_len, boolE_len, List.length_cons, List.length_nil] at *; omega) ?_ | refine OpVC.more tt_ok ?_ | refine RestVC.ext tt_ok ?_)); all_goals (conv => whnf)
      all_goals first
        | (exfalso; omega)
        | exact RetVC.ren [(1011, 77), (1012, 87)] [vb false] _ rfl rfl rfl (hfinal x hx hax)
end Go.Proofs.YtmdipjoogcdngaaDoor.X
