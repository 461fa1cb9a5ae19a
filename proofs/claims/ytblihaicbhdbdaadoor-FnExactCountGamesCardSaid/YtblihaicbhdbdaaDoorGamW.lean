/- The longest and the shortest game, and how many there are: the reference's memo in four columns, the program's in a map. No condition beyond each statement's. -/
import Derived.Test.YtblihaicbhdbdaaDoorGamF
import Derived.Test.YtblihaicbhdbdaaDoorKeyS
import Derived.Test.YtblihaicbhdbdaaDoorFree
import Derived.Test.YtblihaicbhdbdaaDoorCallE
import Derived.Test.YtblihaicbhdbdaaDoorDrawJ
namespace Go.Proofs.YtblihaicbhdbdaaDoor.X
open Go.Proofs
set_option maxRecDepth 100000
set_option linter.unusedVariables false
set_option linter.unusedSimpArgs false

/-! ### The reference's memo -/
abbrev Ln := List Tx × List Int × List Int × List Int
def okLn (x : Ln) : Prop := (x.1.length = x.2.1.length ∧ x.1.length = x.2.2.1.length ∧ x.1.length = x.2.2.2.length) ∧ x.1.Nodup ∧
  ∀ i (h : i < x.1.length), ∃ t w, okLs [w] ∧ x.1[i] = keyF t [w] ∧ x.2.1[i]? = some (gamF w t).long ∧ x.2.2.1[i]? = some (gamF w t).short ∧ x.2.2.2[i]? = some ((gamF w t).count : Int)
def AddL (x0 : Ln) (n : Nat) (x : Ln) : Prop := ∀ k ∈ x.1, k ∈ x0.1 ∨ ∃ t w, okLs [w] ∧ k = keyF t [w] ∧ wayF w < n
theorem okLn_nil : okLn ([], [], [], []) := ⟨⟨rfl, rfl, rfl⟩, List.nodup_nil, fun i h => absurd h (Nat.not_lt_zero _)⟩
theorem okLn_few {x : Ln} (h : okLn x) : x.1.length ≤ 4398046511104 := few_keys h.2.1 (fun s hs => by
    obtain ⟨i, hi, rfl⟩ := List.getElem_of_mem hs
    obtain ⟨t, w, h1, h2, _⟩ := h.2.2 i hi
    rw [h2]; exact keyF_ok h1)
theorem okLn_get {x : Ln} {t : Bool} {w : Tx} {i : Nat} (h : okLn x) (hls : okLs [w]) (he : x.1[i]? = some (keyF t [w])) : i < x.1.length ∧ x.2.1[i]? = some (gamF w t).long ∧ x.2.2.1[i]? = some (gamF w t).short ∧ x.2.2.2[i]? = some ((gamF w t).count : Int) := by
  obtain ⟨hi, he⟩ := List.getElem?_eq_some_iff.1 he
  obtain ⟨t', w', h1, h2, h3⟩ := h.2.2 i hi
  obtain ⟨rfl, h4⟩ := key_inj h1.1 hls.1 (h2.symm.trans he)
  obtain rfl : w' = w := by simpa using h4
  exact ⟨hi, h3⟩
theorem AddL.refl (x : Ln) (n : Nat) : AddL x n x := fun k h => .inl h
theorem AddL.trans {x y z : Ln} {n m : Nat} (hm : m ≤ n) (h1 : AddL x n y) (h2 : AddL y m z) : AddL x n z := fun k hk => by
  rcases h2 k hk with h | ⟨t, ls, a, b, c⟩
  · exact h1 k h
  · exact .inr ⟨t, ls, a, b, by omega⟩
def addLn (x : Ln) (t : Bool) (w : Tx) : Ln := (x.1 ++ [keyF t [w]], x.2.1 ++ [(gamF w t).long], x.2.2.1 ++ [(gamF w t).short], x.2.2.2 ++ [((gamF w t).count : Int)])
theorem okLn_add {x0 x : Ln} {t : Bool} {w : Tx} (h : okLn x) (hls : okLs [w]) (ha : AddL x0 (wayF w) x) (hno : keyF t [w] ∉ x0.1) :
    okLn (addLn x t w) ∧ AddL x0 (wayF w + 1) (addLn x t w) ∧ (addLn x t w).1[x.1.length]? = some (keyF t [w]) := by
  obtain ⟨⟨l1, l2, l3⟩, hn, hi0⟩ := h
  unfold addLn
  refine ⟨⟨⟨by simp [l1], by simp [l2], by simp [l3]⟩, ?_, fun i hi => ?_⟩, fun k hk => ?_, by simp⟩
  · rw [List.nodup_append]
    refine ⟨hn, by simp, fun a ha' b hb => ?_⟩
    simp only [List.mem_singleton] at hb
    subst hb
    intro e
    subst e
    rcases ha _ ha' with h1 | ⟨t', w', h1, h2, h3⟩
    · exact hno h1
    · obtain ⟨rfl, h4⟩ := key_inj hls.1 h1.1 h2
      obtain rfl : w = w' := by simpa using h4
      omega
  · by_cases hlt : i < x.1.length
    · obtain ⟨t', w', h1, h2, h3, h4, h5⟩ := hi0 i hlt
      refine ⟨t', w', h1, by simp only [List.getElem_append_left hlt]; exact h2, ?_, ?_, ?_⟩
      · simp only; rw [List.getElem?_append_left (by omega)]; exact h3
      · simp only; rw [List.getElem?_append_left (by omega)]; exact h4
      · simp only; rw [List.getElem?_append_left (by omega)]; exact h5
    · have hie : i = x.1.length := by simp at hi; omega
      subst hie
      refine ⟨t, w, hls, by simp, ?_, ?_, ?_⟩
      · simp only [l1]; simp
      · simp only [l2]; simp
      · simp only [l3]; simp
  · simp only at hk
    rcases List.mem_append.1 hk with hk | hk
    · rcases ha k hk with h | ⟨t', ls', a, b, c⟩
      · exact .inl h
      · exact .inr ⟨t', ls', a, b, by omega⟩
    · simp only [List.mem_singleton] at hk
      exact .inr ⟨t, w, hls, hk, by omega⟩
theorem one_okLs {w : Tx} (h1 : w.all okCh = true) (h2 : w.length ≤ 10) : okLs [w] := ⟨fun v hv => by simp at hv; rw [hv]; exact h1, by simpa [sumF] using h2, by simp⟩

def lnM (x : Ln) : Mem := [(1000, .box 60 [.sl 1001, .sl 1002, .sl 1003, .sl 1004]), (1001, .sl 9 1 (strE x.1)), (1002, .sl 3 1 (intE x.2.1)), (1003, .sl 3 1 (intE x.2.2.1)), (1004, .sl 3 1 (intE x.2.2.2))]
def lnR (x : Ln) : Mem := [(1000, .box 60 [.sl 1011, .sl 1012, .sl 1013, .sl 1014]), (1011, .sl 9 1 (strE x.1)), (1012, .sl 3 1 (intE x.2.1)), (1013, .sl 3 1 (intE x.2.2.1)), (1014, .sl 3 1 (intE x.2.2.2))]
def LenS (w : Tx) (t : Bool) : Prop := ∀ x0, okLn x0 → Spec Tryd.prog 48 [.c (.ptr 1000 0), .c (.str w), vb t] (lnM x0)
  (exRes (fun γ : Ln × Nat => okLn γ.1 ∧ AddL x0 (wayF w + 1) γ.1 ∧ γ.1.1[γ.2]? = some (keyF t [w])) (fun γ => [i64 (γ.2 : Nat)]) (fun γ => lnR γ.1))
set_option maxHeartbeats 4000000 in
theorem len_spec : ∀ (n : Nat) (w : Tx) (t : Bool), wayF w < n → w.all okCh = true → w.length ≤ 10 → LenS w t
  | 0, w, t, hn, _, _ => absurd hn (Nat.not_lt_zero _)
  | n + 1, w, t, hn, hok, hw => by
    intro x0 hx0
    have hls := one_okLs hok hw
    have hkey := Spec.ren [(1003, 18)] [(18, 1003)] (gaKey_spec [w] t hls) rfl rfl rfl
    have hadd : ∀ x, okLn x → AddL x0 (wayF w) x → keyF t [w] ∉ x0.1 → _ := fun x h1 h2 h3 => okLn_add h1 hls h2 h3
    unfold addLn at hadd
    have hrec : ∀ m ∈ movesF w (kOf t), LenS (madeF w m) (!t) ∧ wayF (madeF w m) < wayF w := fun m hm =>
      ⟨len_spec n (madeF w m) (!t) (by have := way_made hm; omega) (okCh_made hok (by have := (movesF_in hm).1; omega)) (by rw [madeF_len]; exact hw), way_made hm⟩
    have hget : ∀ m ∈ movesF w (kOf t), ∀ x i, okLn x → x.1[i]? = some (keyF (!t) [madeF w m]) → _ := fun m hm x i hx he => okLn_get (t := !t) (w := madeF w m) hx (one_okLs (okCh_made hok (by have := (movesF_in hm).1; omega)) (by rw [madeF_len]; exact hw)) he
    have hkl := (keyF_ok (t := t) hls).1
    have h5 := liMoves_spec w t (!t) hok (by omega)
    rw [liMoves_eq hok, kOf_kinds] at h5
    have hin : ∀ m ∈ movesF w (kOf t), _ := fun m hm => movesF_in hm
    have hmk : ∀ m ∈ movesF w (kOf t), _ := fun m hm => liMake_spec w m (hin m hm).1 (hin m hm).2.1 (hin m hm).2.2 (by omega)
    have hll := movesF_len w (kOf t)
    have hrl := resL_len w t
    have hrg : ∀ k (h : k < (movesF w (kOf t)).length) (h' : k < (resL w t).length), (resL w t)[k] = gamF (madeF w (movesF w (kOf t))[k]) (!t) := fun k h _ => resL_get (w := w) (t := t) h
    have hbd := to_bound w t
    have hct := cntTo_le w t
    have hcf := cnt_few hw t
    have hws := way_small (w := w) (by omega)
    have hge := gamF_eq w t
    generalize hwf : gamF w t = gm at *
    generalize hky : keyF t [w] = key at *
    generalize resL w t = rl at *
    generalize movesF w (kOf t) = l at *
    have hml := mvE_len l
    unfold lnM lnR
    refine Spec.of_wpx tt_ok Tryd.func48 (by kernel_rfl) rfl ?_
    (repeat' ((conv => whnf); first | refine CondVC.t ?_ | refine CondVC.f ?_ | refine CondVC.dec (fun h => ?_) (fun h => ?_) | refine CondVC.ndec (fun h => ?_) (fun h => ?_) | refine CondVC.mk (fun h => ?_) (fun h => ?_) | refine ArVC.i64 (by first | omega | (simp only; omega)) ?_ | refine SideVC.mk (by first | omega | decide | (simp only; omega) | (simp [slS]; done) | (simp [slS]; omega) | (simp only [byteE_len, mvE_len, strE_len, intE_len, esC_len, List.length_cons, List.length_nil, List.length_append, List.length_replicate, List.length_set, Int.toNat_natCast, and_true] at *; omega)) ?_ | refine LoopN.go ?_ | exact trivial | refine AltVC.mk ?_ ?_ | refine HeldVC.mk rfl ?_ | refine CallVC.res [18] rfl hkey rfl ?_ | refine OpVC.more tt_ok ?_ | refine RestVC.ext tt_ok ?_)); all_goals (conv => whnf)
    have hfew0 := okLn_few hx0
    have hk0 := strE_len x0.1
    refine LoopVC.mk (G := Nat) (fun k => ⟨[(26, .v (i64 k)), (25, .v (i64 x0.1.length)), (24, .v (.c (.sl 1001))), (7, .v (.c (.str key))), (2, .v (vb t)), (1, .v (.c (.str w))), (0, .v (.c (.ptr 1000 0)))],
        [(1000, .box 60 [.sl 1001, .sl 1002, .sl 1003, .sl 1004]), (1001, .sl 9 1 (strE x0.1)), (1002, .sl 3 1 (intE x0.2.1)), (1003, .sl 3 1 (intE x0.2.2.1)), (1004, .sl 3 1 (intE x0.2.2.2))]⟩)
      (fun k => k ≤ x0.1.length ∧ ∀ j (hj : j < x0.1.length), j < k → x0.1[j] ≠ key) (fun k => x0.1.length - k) 0 ⟨by omega, fun j hj h => by omega⟩ (Sub.mk [] _ ⟨rfl, by rw [hk0]; rfl, rfl, rfl, rfl, rfl, rfl, trivial⟩ rfl rfl) ?_
    intro k ⟨hk, hno⟩
    by_cases hlt : k < x0.1.length
    · have g1 : (strE x0.1)[(k : Int).toNat]? = some [.str x0.1[k]] := by rw [Int.toNat_natCast]; exact strE_get hlt
      by_cases he : x0.1[k] = key
      · have he2 : x0.1[k]? = some key := by rw [List.getElem?_eq_getElem hlt, he]
        (repeat' ((conv => whnf); first | refine CondVC.t ?_ | refine CondVC.f ?_ | refine CondVC.dec (fun h => ?_) (fun h => ?_) | refine CondVC.ndec (fun h => ?_) (fun h => ?_) | refine CondVC.mk (fun h => ?_) (fun h => ?_) | refine ArVC.i64 (by first | omega | (simp only; omega)) ?_ | refine SideVC.mk (by first | omega | decide | (simp only; omega) | (simp [slS]; done) | (simp [slS]; omega) | (simp only [byteE_len, mvE_len, strE_len, intE_len, esC_len, List.length_cons, List.length_nil, List.length_append, List.length_replicate, List.length_set, Int.toNat_natCast, and_true] at *; omega)) ?_ | refine LoopN.go ?_ | exact trivial | refine AltVC.mk ?_ ?_ | refine HeldVC.mk rfl ?_ | refine LoadVC.mk _ g1 ?_ | refine SideVC.mk (by rw [hk0]; omega) ?_ | refine OpVC.more tt_ok ?_ | refine RestVC.ext tt_ok ?_)); all_goals (conv => whnf)
        all_goals first
          | (exfalso; omega)
          | exact RetVC.ren [(1011, 1001), (1012, 1002), (1013, 1003), (1014, 1004)] [i64 (k : Nat)] [(1000, .box 60 [.sl 1011, .sl 1012, .sl 1013, .sl 1014]), (1011, .sl 9 1 (strE x0.1)), (1012, .sl 3 1 (intE x0.2.1)), (1013, .sl 3 1 (intE x0.2.2.1)), (1014, .sl 3 1 (intE x0.2.2.2))] rfl rfl rfl ⟨(x0, k), ⟨hx0, AddL.refl _ _, he2⟩, rfl, rfl⟩
          | (exfalso; simp_all; done)
      · (repeat' ((conv => whnf); first | refine CondVC.t ?_ | refine CondVC.f ?_ | refine CondVC.dec (fun h => ?_) (fun h => ?_) | refine CondVC.ndec (fun h => ?_) (fun h => ?_) | refine CondVC.mk (fun h => ?_) (fun h => ?_) | refine ArVC.i64 (by first | omega | (simp only; omega)) ?_ | refine SideVC.mk (by first | omega | decide | (simp only; omega) | (simp [slS]; done) | (simp [slS]; omega) | (simp only [byteE_len, mvE_len, strE_len, intE_len, esC_len, List.length_cons, List.length_nil, List.length_append, List.length_replicate, List.length_set, Int.toNat_natCast, and_true] at *; omega)) ?_ | refine LoopN.go ?_ | exact trivial | refine AltVC.mk ?_ ?_ | refine HeldVC.mk rfl ?_ | refine LoadVC.mk _ g1 ?_ | refine SideVC.mk (by rw [hk0]; omega) ?_ | refine OpVC.more tt_ok ?_ | refine RestVC.ext tt_ok ?_)); all_goals (conv => whnf)
        all_goals first
          | (exfalso; omega)
          | (exfalso; simp_all; done)
          | exact ⟨k + 1, ⟨by omega, fun j hj h => by
              by_cases e : j = k
              · subst e; exact he
              · exact hno j hj (by omega)⟩, by omega, Sub.mk [] _ ⟨rfl, rfl, rfl, rfl, rfl, rfl, rfl, trivial⟩ rfl rfl⟩
    have hnot : key ∉ x0.1 := fun hm => by
      obtain ⟨j, hj, e⟩ := List.getElem_of_mem hm
      exact hno j hj (by omega) e
    have hfinal : ∀ (x : Ln) (a b c : Int), okLn x → AddL x0 (wayF w) x → a = gm.long → b = gm.short → c = (gm.count : Int) → exRes (fun γ : Ln × Nat => okLn γ.1 ∧ AddL x0 (wayF w + 1) γ.1 ∧ γ.1.1[γ.2]? = some key) (fun γ => [i64 (γ.2 : Nat)])
        (fun γ => [(1000, Res.box 60 [.sl 1011, .sl 1012, .sl 1013, .sl 1014]), (1011, .sl 9 1 (strE γ.1.1)), (1012, .sl 3 1 (intE γ.1.2.1)), (1013, .sl 3 1 (intE γ.1.2.2.1)), (1014, .sl 3 1 (intE γ.1.2.2.2))]) [i64 (x.1.length : Nat)]
        [(1000, .box 60 [.sl 1011, .sl 1012, .sl 1013, .sl 1014]), (1011, .sl 9 1 (strE x.1 ++ [[.str key]])), (1012, .sl 3 1 (intE x.2.1 ++ [[.int .i64 a]])), (1013, .sl 3 1 (intE x.2.2.1 ++ [[.int .i64 b]])), (1014, .sl 3 1 (intE x.2.2.2 ++ [[.int .i64 c]]))] := fun x a b c h1 h2 ea eb ec => by
      subst ea eb ec
      exact ⟨(_, x.1.length), hadd x h1 h2 hnot, rfl, by simp only [strE_append, intE_append]; rfl⟩
    by_cases hl0 : l = []
    · have hr0 : rl = [] := List.eq_nil_of_length_eq_zero (by rw [hrl, hl0]; rfl)
      have e1 : (0 : Int) = gm.long := by rw [hge, hr0]; rfl
      have e2 : (0 : Int) = gm.short := by rw [hge, hr0]; rfl
      have e3 : (1 : Int) = (gm.count : Int) := by rw [hge, hr0]; rfl
      have hfin := hfinal x0 0 0 1 hx0 (AddL.refl _ _) e1 e2 e3
      obtain ⟨⟨l1, l2, l3⟩, _⟩ := hx0
      have i1 := intE_len x0.2.1
      have i2 := intE_len x0.2.2.1
      have i3 := intE_len x0.2.2.2
      have hlz : l.length = 0 := by rw [hl0]; rfl
      (repeat' ((conv => whnf); first | refine CondVC.t ?_ | refine CondVC.f ?_ | refine CondVC.dec (fun h => ?_) (fun h => ?_) | refine CondVC.ndec (fun h => ?_) (fun h => ?_) | refine CondVC.mk (fun h => ?_) (fun h => ?_) | refine ArVC.i64 (by first | omega | (simp only; omega)) ?_ | refine SideVC.mk (by first | omega | decide | (simp only; omega) | (simp [slS]; done) | (simp [slS]; omega) | (simp only [byteE_len, mvE_len, strE_len, intE_len, esC_len, List.length_cons, List.length_nil, List.length_append, List.length_replicate, List.length_set, Int.toNat_natCast, and_true] at *; omega)) ?_ | refine LoopN.go ?_ | exact trivial | refine AltVC.mk ?_ ?_ | refine HeldVC.mk rfl ?_ | refine LoopVC.rounds 1 ?_ | refine CallVC.res [] rfl (Spec.ren [(1001, 2001)] [(2001, 1001)] h5 rfl rfl rfl) rfl ?_ | refine SideVC.mk (by simp only [strE_len, intE_len, List.length_cons, List.length_nil] at *; omega) ?_ | refine ArVC.i64 (by simp only [strE_len, List.length_append, List.length_cons, List.length_nil]; omega) ?_ | refine OpVC.more tt_ok ?_ | refine RestVC.ext tt_ok ?_)); all_goals (conv => whnf)
      all_goals first
        | (exfalso; omega)
        | exact RetVC.ren [(1011, 107), (1012, 117), (1013, 127), (1014, 137)] [i64 (x0.1.length : Nat)] _ (congrArg (fun z => [i64 z]) (show (((strE x0.1 ++ [[C.str key]]).length : Nat) : Int) - 1 = (x0.1.length : Int) by simp [strE_len])) rfl rfl hfin
    · have hlp : 0 < l.length := List.length_pos_iff.2 hl0
      have hrn : rl ≠ [] := fun e => by rw [e] at hrl; simp at hrl; omega
      have hz1 : longTo rl 0 = 0 := rfl
      have hz2 : shortTo rl 0 = 0 := rfl
      have hz3 : cntTo rl 0 = 0 := rfl
      have hs1 := fun k (h : k < rl.length) => longTo_succ h
      have hs2 := fun k (h : k < rl.length) (h0 : k ≠ 0) => shortTo_succ h h0
      have hs20 := shortTo_one (l := rl) (by omega)
      have hs3 := fun k (h : k < rl.length) => cntTo_succ h
      have he1 := fun k (h : rl.length ≤ k) => longTo_end h
      have he2 := fun k (h : rl.length ≤ k) => shortTo_end h
      have he3 := fun k (h : rl.length ≤ k) => cntTo_end h hrn
      generalize longTo rl = f1 at *
      generalize shortTo rl = f2 at *
      generalize cntTo rl = f3 at *
      (repeat' ((conv => whnf); first | refine CondVC.t ?_ | refine CondVC.f ?_ | refine CondVC.dec (fun h => ?_) (fun h => ?_) | refine CondVC.ndec (fun h => ?_) (fun h => ?_) | refine CondVC.mk (fun h => ?_) (fun h => ?_) | refine ArVC.i64 (by first | omega | (simp only; omega)) ?_ | refine SideVC.mk (by first | omega | decide | (simp only; omega) | (simp [slS]; done) | (simp [slS]; omega) | (simp only [byteE_len, mvE_len, strE_len, intE_len, esC_len, List.length_cons, List.length_nil, List.length_append, List.length_replicate, List.length_set, Int.toNat_natCast, and_true] at *; omega)) ?_ | refine LoopN.go ?_ | exact trivial | refine AltVC.mk ?_ ?_ | refine HeldVC.mk rfl ?_ | refine CallVC.res [] rfl (Spec.ren [(1001, 2001)] [(2001, 1001)] h5 rfl rfl rfl) rfl ?_ | refine OpVC.more tt_ok ?_ | refine RestVC.ext tt_ok ?_)); all_goals (conv => whnf)
      all_goals try (exfalso; omega)
      refine LoopVC.mk (G := Nat × Ln) (fun γ => ⟨[(46, .v (i64 γ.1)), (45, .v (i64 l.length)), (44, .v (.c (.sl 2001))), (12, .v (i64 (f3 γ.1 : Nat))), (11, .v (i64 (f2 γ.1))), (10, .v (i64 (f1 γ.1))), (7, .v (.c (.str key))), (2, .v (vb t)), (1, .v (.c (.str w))), (0, .v (.c (.ptr 1000 0)))],
          [(2001, .sl 45 2 (mvE l)), (1000, .box 60 [.sl 3001, .sl 3002, .sl 3003, .sl 3004]), (3001, .sl 9 1 (strE γ.2.1)), (3002, .sl 3 1 (intE γ.2.2.1)), (3003, .sl 3 1 (intE γ.2.2.2.1)), (3004, .sl 3 1 (intE γ.2.2.2.2))]⟩)
        (fun γ => γ.1 ≤ l.length ∧ okLn γ.2 ∧ AddL x0 (wayF w) γ.2) (fun γ => l.length - γ.1) (0, x0) ⟨Nat.zero_le _, hx0, AddL.refl _ _⟩
        (Sub.mk [(3001, 1001), (3002, 1002), (3003, 1003), (3004, 1004)] _ ⟨rfl, by rw [hml]; rfl, rfl, by rw [hz3]; rfl, by rw [hz2]; rfl, by rw [hz1]; rfl, rfl, rfl, rfl, rfl, trivial⟩ rfl rfl) ?_
      rintro ⟨j, x⟩ ⟨hj, hx, hax⟩
      simp only at hj hx hax
      have hfew := okLn_few hx
      by_cases hjl : j < l.length
      · have hmem := List.getElem_mem hjl
        have g2 : (mvE l)[(j : Int).toNat]? = some (mvC l[j]) := by rw [Int.toNat_natCast]; exact mvE_get hjl
        have h6 := hmk _ hmem
        obtain ⟨h8a, hwm⟩ := hrec _ hmem
        have h8b := h8a x hx
        unfold lnM lnR at h8b
        have h8 := Spec.renE [(1001, 3001), (1002, 3002), (1003, 3003), (1004, 3004), (1011, 3011), (1012, 3012), (1013, 3013), (1014, 3014)] [(3001, 1001), (3002, 1002), (3003, 1003), (3004, 1004), (3011, 1011), (3012, 1012), (3013, 1013), (3014, 1014)] h8b (fun _ => rfl) (fun _ => rfl) rfl
        have hgt := hget _ hmem
        have hs1 := hs1 j (by omega)
        have hs2 := hs2 j (by omega)
        have hs3 := hs3 j (by omega)
        have hgj := hrg j hjl (by omega)
        have hb0 := hbd j
        have hb1 := hbd (j + 1)
        have hc1 := hct (j + 1)
        have hs20j : j = 0 → f2 (j + 1) = rl[j].short + 1 := fun e => by subst e; exact hs20
        rw [hgj] at hs1 hs2 hs3 hs20j
        obtain ⟨u, hu⟩ : ∃ u, u = madeF w l[j] := ⟨_, rfl⟩
        rw [← hu] at h6 h8 hgt hwm hs1 hs2 hs3 hs20j
        have hub := gam_bound (wayF u) u (!t) (Nat.le_refl _)
        generalize gamF u (!t) = gu at *
        generalize keyF (!t) [u] = ku at *
        generalize l[j] = m at *
        by_cases hj0 : j = 0
        · have hs2 := hs20j hj0
          (repeat' ((conv => whnf); first | refine CondVC.t ?_ | refine CondVC.f ?_ | refine CondVC.dec (fun h => ?_) (fun h => ?_) | refine CondVC.ndec (fun h => ?_) (fun h => ?_) | refine CondVC.mk (fun h => ?_) (fun h => ?_) | refine ArVC.i64 (by first | omega | (simp only; omega)) ?_ | refine SideVC.mk (by first | omega | decide | (simp only; omega) | (simp [slS]; done) | (simp [slS]; omega) | (simp only [byteE_len, mvE_len, strE_len, intE_len, esC_len, List.length_cons, List.length_nil, List.length_append, List.length_replicate, List.length_set, Int.toNat_natCast, and_true] at *; omega)) ?_ | refine LoopN.go ?_ | exact trivial | refine AltVC.mk ?_ ?_ | refine HeldVC.mk rfl ?_ | refine LoadVC.mk _ g2 ?_ | refine SideVC.mk (by rw [hml]; omega) ?_ | refine CallVC.pure h6 rfl ?_ | (refine CallVC.ex [1000, 3001, 3002, 3003, 3004] rfl h8 ?_; rintro ⟨x', i⟩ hx'; refine ⟨rfl, ?_⟩; have a1 : okLn x' := hx'.1; have a2 : AddL x (wayF u + 1) x' := hx'.2.1; have a3 : x'.1[i]? = some ku := hx'.2.2; obtain ⟨hi, v1, v2, v3⟩ := hgt x' i a1 a3; have w1 : (intE x'.2.1)[(i : Int).toNat]? = some [.int .i64 gu.long] := (by rw [Int.toNat_natCast]; unfold intE; rw [List.getElem?_map, v1]; rfl); have w2 : (intE x'.2.2.1)[(i : Int).toNat]? = some [.int .i64 gu.short] := (by rw [Int.toNat_natCast]; unfold intE; rw [List.getElem?_map, v2]; rfl); have w3 : (intE x'.2.2.2)[(i : Int).toNat]? = some [.int .i64 (gu.count : Int)] := (by rw [Int.toNat_natCast]; unfold intE; rw [List.getElem?_map, v3]; rfl); have q1 := intE_len x'.2.1; have q2 := intE_len x'.2.2.1; have q3 := intE_len x'.2.2.2; have q0 := a1.1) | refine LoadVC.mk _ w1 ?_ | refine LoadVC.mk _ w2 ?_ | refine LoadVC.mk _ w3 ?_ | refine CallVC.pure (l1Most_spec _ _) rfl ?_ | refine SideVC.mk (by simp only [q1, q2, q3]; omega) ?_ | refine OpVC.more tt_ok ?_ | refine RestVC.ext tt_ok ?_)); all_goals (conv => whnf)
          all_goals first
            | (exfalso; omega)
            | exact ⟨(j + 1, x'), ⟨by simp only; omega, a1, AddL.trans (by omega) hax a2⟩, by simp only; omega, Sub.mk [(3001, 3011), (3002, 3012), (3003, 3013), (3004, 3014)] _ ⟨rfl, rfl, rfl, congrArg (fun z => some (E.v (i64 z))) (show ((f3 j : Nat) : Int) + (gu.count : Int) = ((f3 (j + 1) : Nat) : Int) by rw [hs3]; omega), congrArg (fun z => some (E.v (i64 z))) (show gu.short + 1 = f2 (j + 1) by simp only at *; omega), congrArg (fun z => some (E.v (i64 z))) (by rw [hs1]), rfl, rfl, rfl, rfl, trivial⟩ rfl rfl⟩
        · have hs2 := hs2 hj0
          (repeat' ((conv => whnf); first | refine CondVC.t ?_ | refine CondVC.f ?_ | refine CondVC.dec (fun h => ?_) (fun h => ?_) | refine CondVC.ndec (fun h => ?_) (fun h => ?_) | refine CondVC.mk (fun h => ?_) (fun h => ?_) | refine ArVC.i64 (by first | omega | (simp only; omega)) ?_ | refine SideVC.mk (by first | omega | decide | (simp only; omega) | (simp [slS]; done) | (simp [slS]; omega) | (simp only [byteE_len, mvE_len, strE_len, intE_len, esC_len, List.length_cons, List.length_nil, List.length_append, List.length_replicate, List.length_set, Int.toNat_natCast, and_true] at *; omega)) ?_ | refine LoopN.go ?_ | exact trivial | refine AltVC.mk ?_ ?_ | refine HeldVC.mk rfl ?_ | refine LoadVC.mk _ g2 ?_ | refine SideVC.mk (by rw [hml]; omega) ?_ | refine CallVC.pure h6 rfl ?_ | (refine CallVC.ex [1000, 3001, 3002, 3003, 3004] rfl h8 ?_; rintro ⟨x', i⟩ hx'; refine ⟨rfl, ?_⟩; have a1 : okLn x' := hx'.1; have a2 : AddL x (wayF u + 1) x' := hx'.2.1; have a3 : x'.1[i]? = some ku := hx'.2.2; obtain ⟨hi, v1, v2, v3⟩ := hgt x' i a1 a3; have w1 : (intE x'.2.1)[(i : Int).toNat]? = some [.int .i64 gu.long] := (by rw [Int.toNat_natCast]; unfold intE; rw [List.getElem?_map, v1]; rfl); have w2 : (intE x'.2.2.1)[(i : Int).toNat]? = some [.int .i64 gu.short] := (by rw [Int.toNat_natCast]; unfold intE; rw [List.getElem?_map, v2]; rfl); have w3 : (intE x'.2.2.2)[(i : Int).toNat]? = some [.int .i64 (gu.count : Int)] := (by rw [Int.toNat_natCast]; unfold intE; rw [List.getElem?_map, v3]; rfl); have q1 := intE_len x'.2.1; have q2 := intE_len x'.2.2.1; have q3 := intE_len x'.2.2.2; have q0 := a1.1) | refine LoadVC.mk _ w1 ?_ | refine LoadVC.mk _ w2 ?_ | refine LoadVC.mk _ w3 ?_ | refine CallVC.pure (l1Most_spec _ _) rfl ?_ | refine SideVC.mk (by simp only [q1, q2, q3]; omega) ?_ | refine OpVC.more tt_ok ?_ | refine RestVC.ext tt_ok ?_)); all_goals (conv => whnf)
          all_goals first
            | (exfalso; omega)
            | exact ⟨(j + 1, x'), ⟨by simp only; omega, a1, AddL.trans (by omega) hax a2⟩, by simp only; omega, Sub.mk [(3001, 3011), (3002, 3012), (3003, 3013), (3004, 3014)] _ ⟨rfl, rfl, rfl, congrArg (fun z => some (E.v (i64 z))) (show ((f3 j : Nat) : Int) + (gu.count : Int) = ((f3 (j + 1) : Nat) : Int) by rw [hs3]; omega), congrArg (fun z => some (E.v (i64 z))) (show gu.short + 1 = f2 (j + 1) by simp only at *; omega), congrArg (fun z => some (E.v (i64 z))) (by rw [hs1]), rfl, rfl, rfl, rfl, trivial⟩ rfl rfl⟩
            | exact ⟨(j + 1, x'), ⟨by simp only; omega, a1, AddL.trans (by omega) hax a2⟩, by simp only; omega, Sub.mk [(3001, 3011), (3002, 3012), (3003, 3013), (3004, 3014)] _ ⟨rfl, rfl, rfl, congrArg (fun z => some (E.v (i64 z))) (show ((f3 j : Nat) : Int) + (gu.count : Int) = ((f3 (j + 1) : Nat) : Int) by rw [hs3]; omega), congrArg (fun z => some (E.v (i64 z))) (show f2 j = f2 (j + 1) by simp only at *; omega), congrArg (fun z => some (E.v (i64 z))) (by rw [hs1]), rfl, rfl, rfl, rfl, trivial⟩ rfl rfl⟩
      · have hfin := hfinal x (f1 j) (f2 j) (f3 j) hx hax (by rw [he1 j (by omega), hge]) (by rw [he2 j (by omega), hge]) (by rw [he3 j (by omega), hge])
        obtain ⟨⟨l1, l2, l3⟩, _⟩ := hx
        have k1 := strE_len x.1
        have i1 := intE_len x.2.1
        have i2 := intE_len x.2.2.1
        have i3 := intE_len x.2.2.2
        (repeat' ((conv => whnf); first | refine CondVC.t ?_ | refine CondVC.f ?_ | refine CondVC.dec (fun h => ?_) (fun h => ?_) | refine CondVC.ndec (fun h => ?_) (fun h => ?_) | refine CondVC.mk (fun h => ?_) (fun h => ?_) | refine ArVC.i64 (by first | omega | (simp only; omega)) ?_ | refine SideVC.mk (by first | omega | decide | (simp only; omega) | (simp [slS]; done) | (simp [slS]; omega) | (simp only [byteE_len, mvE_len, strE_len, intE_len, esC_len, List.length_cons, List.length_nil, List.length_append, List.length_replicate, List.length_set, Int.toNat_natCast, and_true] at *; omega)) ?_ | refine LoopN.go ?_ | exact trivial | refine AltVC.mk ?_ ?_ | refine HeldVC.mk rfl ?_ | refine SideVC.mk (by simp only [strE_len, intE_len, List.length_cons, List.length_nil] at *; omega) ?_ | refine ArVC.i64 (by simp only [strE_len, List.length_append, List.length_cons, List.length_nil]; omega) ?_ | refine OpVC.more tt_ok ?_ | refine RestVC.ext tt_ok ?_)); all_goals (conv => whnf)
        all_goals first
          | (exfalso; omega)
          | exact RetVC.ren [(1011, 107), (1012, 117), (1013, 127), (1014, 137)] [i64 (x.1.length : Nat)] _ (congrArg (fun z => [i64 z]) (show (((strE x.1 ++ [[C.str key]]).length : Nat) : Int) - 1 = (x.1.length : Int) by simp [strE_len])) rfl rfl hfin
end Go.Proofs.YtblihaicbhdbdaaDoor.X
