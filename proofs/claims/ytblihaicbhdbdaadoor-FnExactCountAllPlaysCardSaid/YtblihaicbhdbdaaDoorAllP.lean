/- All plays: the program's half. No condition beyond each statement's. -/
import Derived.Test.YtblihaicbhdbdaaDoorAllPF
import Derived.Test.YtblihaicbhdbdaaDoorBndK
import Derived.Test.YtblihaicbhdbdaaDoorBetween
import Derived.Test.YtblihaicbhdbdaaDoorMove
namespace Go.Proofs.YtblihaicbhdbdaaDoor.X
open Go.Proofs
set_option maxRecDepth 100000
set_option linter.unusedVariables false
set_option linter.unusedSimpArgs false
theorem allF_few {w : Tx} (hok : w.all okCh = true) (hl : w.length ≤ 10) : allF w < 9223372036854775808 := by
  refine few_plays allF (fun w => ?_) hok hl
  rw [allF_eq]
  split
  · exact .inl (Nat.le_refl _)
  · right
    unfold succF
    rw [List.map_map]
    exact Nat.le_refl _
def sTo (w : Tx) (k : Nat) : Nat := (((movesF w both).take k).map fun m => allF (madeF w m)).sum
theorem sTo_zero (w : Tx) : sTo w 0 = 0 := by simp [sTo]
theorem sTo_succ (w : Tx) {k : Nat} (h : k < (movesF w both).length) : sTo w (k + 1) = sTo w k + allF (madeF w (movesF w both)[k]) := by
  unfold sTo; rw [List.take_succ_eq_append_getElem h, List.map_append, List.sum_append]; simp
theorem sTo_all (w : Tx) (hne : movesF w both ≠ []) : (((movesF w both).map fun m => allF (madeF w m)).sum) = allF w := by
  conv => rhs; rw [allF_eq, if_neg hne]
  unfold succF
  rw [List.map_map]; rfl
theorem sTo_le (w : Tx) (k : Nat) : sTo w k ≤ allF w := by
  by_cases h : movesF w both = []
  · unfold sTo; rw [h]; simp
  · rw [← sTo_all w h]
    unfold sTo
    rw [List.map_take]
    exact sum_take_le _ k
theorem sTo_end (w : Tx) {k : Nat} (h : (movesF w both).length ≤ k) : (if (1 : Int) < (sTo w k : Nat) then ((sTo w k : Nat) : Int) else 1) = (allF w : Nat) := by
  have hp := allF_pos _ w rfl
  by_cases hn : movesF w both = []
  · have e : allF w = 1 := by rw [allF_eq, if_pos hn]
    have e2 : sTo w k = 0 := by unfold sTo; rw [hn]; simp
    rw [e, e2]; rfl
  · have e : sTo w k = allF w := by
      rw [← sTo_all w hn]
      unfold sTo
      rw [List.take_of_length_le h]
    rw [e]
    split <;> omega
def okAl (es : List (C × V)) : Prop := ∀ p ∈ es, ∃ w, p = (.str w, i64 (allF w : Nat))
theorem okAl_nil : okAl [] := fun p hp => by cases hp
theorem okAl_get {es : List (C × V)} {w : Tx} {v : V} (h : okAl es) (hg : getM es (.str w) = some v) : v = i64 (allF w : Nat) := by
  obtain ⟨k, hk, he⟩ := getM_mem hg
  obtain ⟨w', e⟩ := h _ hk
  simp only [Prod.mk.injEq] at e
  obtain ⟨rfl, rfl⟩ := e
  simp only [keyEq, decide_eq_true_eq] at he
  subst he; rfl
theorem okAl_set {es : List (C × V)} {w : Tx} (h : okAl es) : okAl (setM es (.str w) (i64 (allF w : Nat))) := fun p hp => by
  rcases mem_setM hp with hp | hp
  · exact h p hp
  · exact ⟨w, hp⟩
def alM (es : List (C × V)) : Mem := [(1005, .box 41 [.mp 1000]), (1000, .ext (.mp none es)), (1006, .box 42 [.fn 46 [1005, 1006]])]
def AllS (w : Tx) : Prop := ∀ es, okAl es → Spec Tryd.prog 46 [.c (.str w), .c (.ptr 1005 0), .c (.ptr 1006 0)] (alM es) (exRes okAl (fun _ => [i64 (allF w : Nat)]) alM)
set_option maxHeartbeats 1000000 in
theorem all1_spec : ∀ (n : Nat) (w : Tx), potF w < n → w.length ≤ 10 → w.all okCh = true → AllS w
  | 0, w, hn, _, _ => absurd hn (Nat.not_lt_zero _)
  | n + 1, w, hn, hw, hok => by
    intro es hes
    have h1 := Spec.ren [(1001, 2001)] [(2001, 1001)] (moves_spec w both (by omega)) rfl rfl rfl
    have hin : ∀ m ∈ movesF w both, _ := fun m hm => movesF_in hm
    have hmk : ∀ m ∈ movesF w both, _ := fun m hm => made_spec w m (hin m hm).1 (hin m hm).2.1 (by omega)
    have hrec : ∀ m ∈ movesF w both, AllS (madeF w m) := fun m hm =>
      all1_spec n (madeF w m) (by have := pot_made hm; omega) (by rw [madeF_len]; exact hw) (okCh_made hok (m := m) (by have := (hin m hm).1; omega))
    have hll : (movesF w both).length ≤ 10 := Nat.le_trans (movesF_len w both) hw
    have hz := sTo_zero w
    have hsu := fun k (h : k < (movesF w both).length) => sTo_succ w h
    have hle := sTo_le w
    have hend := fun k (h : (movesF w both).length ≤ k) => sTo_end w h
    have hfew := allF_few hok hw
    have hget : ∀ {v : V}, getM es (.str w) = some v → v = i64 (allF w : Nat) := fun h => okAl_get hes h
    have hset : ∀ es, okAl es → okAl (setM es (.str w) (i64 (allF w : Nat))) := fun es h => okAl_set h
    generalize allF w = A at *
    generalize movesF w both = l at *
    generalize sTo w = f at *
    have hml := mvE_len l
    unfold alM
    refine Spec.of_wpx tt_ok Tryd.func46 (by kernel_rfl) rfl ?_
    (repeat' ((conv => whnf); first | refine CondVC.t ?_ | refine CondVC.f ?_ | refine CondVC.dec (fun h => ?_) (fun h => ?_) | refine CondVC.ndec (fun h => ?_) (fun h => ?_) | refine CondVC.mk (fun h => ?_) (fun h => ?_) | refine ArVC.i64 (by first | omega | (simp only; omega)) ?_ | refine SideVC.mk (by first | omega | decide | (simp only; omega) | (simp [slS]; done) | (simp [slS]; omega) | (simp only [byteE_len, mvE_len, strE_len, intE_len, esC_len, List.length_cons, List.length_nil, List.length_append, List.length_replicate, List.length_set, Int.toNat_natCast, and_true] at *; omega)) ?_ | refine LoopN.go ?_ | exact trivial | refine AltVC.mk ?_ ?_ | refine HeldVC.mk rfl ?_ | (refine LookVC.mk (fun x hx => ?_) (fun hx => ?_); obtain rfl := hget hx) | refine CallVC.res [] rfl h1 rfl ?_ | refine OpVC.more tt_ok ?_ | refine RestVC.ext tt_ok ?_)); all_goals (conv => whnf)
    · exact RetVC.mk rfl ⟨es, hes, rfl, rfl⟩
    refine LoopVC.mk (G := Nat × List (C × V)) (fun γ => ⟨[(21, .v (i64 γ.1)), (20, .v (i64 (l.length : Nat))), (19, .v (.c (.sl 2001))), (7, .v (i64 (f γ.1 : Nat))), (2, .v (.c (.ptr 1006 0))), (1, .v (.c (.ptr 1005 0))), (0, .v (.c (.str w)))],
        [(2001, .sl 45 2 (mvE l)), (1005, .box 41 [.mp 1000]), (1000, .ext (.mp none γ.2)), (1006, .box 42 [.fn 46 [1005, 1006]])]⟩)
      (fun γ => γ.1 ≤ l.length ∧ okAl γ.2) (fun γ => l.length - γ.1) (0, es) ⟨Nat.zero_le _, hes⟩
      (Sub.mk [] _ ⟨rfl, by rw [← hml]; rfl, rfl, by simp only [hz]; rfl, rfl, rfl, rfl, trivial⟩ rfl rfl) ?_
    rintro ⟨k, es⟩ ⟨hk, hes⟩
    simp only at hk hes
    by_cases hkl : k < l.length
    · have hmem := List.getElem_mem hkl
      have gk : (mvE l)[(k : Int).toNat]? = some (mvC l[k]) := by rw [Int.toNat_natCast]; exact mvE_get hkl
      have c1 := hmk _ hmem
      have c2 := hrec _ hmem es hes
      unfold alM at c2
      have hst := hsu k hkl
      have hl1 := hle (k + 1)
      rw [hst] at hl1
      generalize madeF w l[k] = u at *
      generalize l[k] = m at *
      generalize allF u = B at *
      (repeat' ((conv => whnf); first | refine CondVC.t ?_ | refine CondVC.f ?_ | refine CondVC.dec (fun h => ?_) (fun h => ?_) | refine CondVC.ndec (fun h => ?_) (fun h => ?_) | refine CondVC.mk (fun h => ?_) (fun h => ?_) | refine ArVC.i64 (by first | omega | (simp only; omega)) ?_ | refine SideVC.mk (by first | omega | decide | (simp only; omega) | (simp [slS]; done) | (simp [slS]; omega) | (simp only [byteE_len, mvE_len, strE_len, intE_len, esC_len, List.length_cons, List.length_nil, List.length_append, List.length_replicate, List.length_set, Int.toNat_natCast, and_true] at *; omega)) ?_ | refine LoopN.go ?_ | exact trivial | refine AltVC.mk ?_ ?_ | refine HeldVC.mk rfl ?_ | refine LoadVC.mk _ gk ?_ | refine SideVC.mk (by rw [hml]; omega) ?_ | refine CallVC.pure c1 rfl ?_ | (refine CallVC.ex [1005, 1000, 1006] rfl c2 ?_; intro es2 hes2; refine ⟨rfl, ?_⟩) | refine DrawVC.tree (id := 8) tt_ok [9, 1006] tr46_8 (by kernel_rfl) (by kernel_rfl) rfl ?_ | refine OpVC.more tt_ok ?_ | refine RestVC.ext tt_ok ?_)); all_goals (conv => whnf)
      all_goals first
        | (exfalso; omega)
        | exact ⟨(k + 1, es2), ⟨hkl, hes2⟩, by simp only; omega, Sub.mk [] _ ⟨rfl, rfl, rfl, by simp only [hst]; rfl, rfl, rfl, rfl, trivial⟩ rfl rfl⟩
    · have e := hend k (by omega)
      have hset := hset es hes
      have hself : getM (setM es (.str w) (i64 A)) (.str w) = some (i64 A) := getM_set_self (kd := none) rfl
      have hlk := hle k
      generalize hfk : f k = x at *
      rw [← e] at hset hself
      rw [← e]
      have hget2 : ∀ {y : V}, getM (setM es (.str w) (i64 (if (1 : Int) < (x : Nat) then ((x : Nat) : Int) else 1))) (.str w) = some y → y = i64 (if (1 : Int) < (x : Nat) then ((x : Nat) : Int) else 1) := fun h => Option.some.inj (h.symm.trans hself)
      (repeat' ((conv => whnf); first | refine CondVC.t ?_ | refine CondVC.f ?_ | refine CondVC.dec (fun h => ?_) (fun h => ?_) | refine CondVC.ndec (fun h => ?_) (fun h => ?_) | refine CondVC.mk (fun h => ?_) (fun h => ?_) | refine ArVC.i64 (by first | omega | (simp only; omega)) ?_ | refine SideVC.mk (by first | omega | decide | (simp only; omega) | (simp [slS]; done) | (simp [slS]; omega) | (simp only [byteE_len, mvE_len, strE_len, intE_len, esC_len, List.length_cons, List.length_nil, List.length_append, List.length_replicate, List.length_set, Int.toNat_natCast, and_true] at *; omega)) ?_ | refine LoopN.go ?_ | exact trivial | refine AltVC.mk ?_ ?_ | refine HeldVC.mk rfl ?_ | (refine LookVC.mk (fun y hy => ?_) (fun hy => ?_); obtain rfl := hget2 hy) | refine OpVC.more tt_ok ?_ | refine RestVC.ext tt_ok ?_)); all_goals (conv => whnf)
      all_goals first
        | (exfalso; omega)
        | exact RetVC.mk rfl ⟨_, hset, rfl, rfl⟩
        | (exfalso; exact absurd (hself.symm.trans (by assumption)) (by simp))
end Go.Proofs.YtblihaicbhdbdaaDoor.X
