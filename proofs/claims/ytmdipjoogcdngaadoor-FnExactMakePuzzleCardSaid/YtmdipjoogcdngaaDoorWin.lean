/- Who wins: the program's games with their memo. No condition beyond each statement's. -/
import Derived.Test.YtmdipjoogcdngaaDoorKeyS
import Derived.Test.YtmdipjoogcdngaaDoorFree
import Derived.Test.YtmdipjoogcdngaaDoorKeyF
import Derived.Test.YtmdipjoogcdngaaDoorCallE
import Derived.Test.YtmdipjoogcdngaaDoorJoin
import Derived.Lib.Join
namespace Go.Proofs.YtmdipjoogcdngaaDoor.X
open Go.Proofs
set_option maxRecDepth 100000
set_option linter.unusedVariables false
set_option linter.unusedSimpArgs false

def okWin (es : List (C × V)) : Prop := ∀ p ∈ es, ∃ s t, p = (.str (kOf t ++ s), vb (winF s t))
theorem okWin_get {es : List (C × V)} {s : Tx} {t : Bool} {v : V} (h : okWin es) (hg : getM es (.str (kOf t ++ s)) = some v) : v = vb (winF s t) := by
  obtain ⟨k, hk, he⟩ := getM_mem hg
  obtain ⟨s', t', e⟩ := h _ hk
  simp only [Prod.mk.injEq] at e
  obtain ⟨rfl, rfl⟩ := e
  simp only [keyEq, decide_eq_true_eq] at he
  cases t <;> cases t' <;> simp [kOf] at he <;> rw [he]
theorem okWin_set {es : List (C × V)} {s : Tx} {t : Bool} (h : okWin es) : okWin (setM es (.str (kOf t ++ s)) (vb (winF s t))) := fun p hp => by
  rcases mem_setM hp with hp | hp
  · exact h p hp
  · exact ⟨s, t, hp⟩

/-! ### The first of a list that meets something, by a function that keeps a memo -/
def firstP (l : List Mv) (p : Mv → Bool) : Int := match l.findIdx? p with
  | some i => (i : Int)
  | none => -1
theorem firstP_at {l : List Mv} {p : Mv → Bool} {k : Nat} (h : k < l.length) (h1 : p l[k] = true) (h2 : ∀ j (hj : j < l.length), j < k → p l[j] = false) : firstP l p = k := by
  unfold firstP
  have : l.findIdx? p = some k := by
    rw [List.findIdx?_eq_some_iff_getElem]
    exact ⟨h, h1, fun j hj => by simp [h2 j (by omega) hj]⟩
  rw [this]
theorem firstP_none {l : List Mv} {p : Mv → Bool} (h2 : ∀ j (hj : j < l.length), p l[j] = false) : firstP l p = -1 := by
  unfold firstP
  have : l.findIdx? p = none := by
    rw [List.findIdx?_eq_none_iff]
    intro x hx
    obtain ⟨j, hj, rfl⟩ := List.getElem_of_mem hx
    exact h2 j hj
  rw [this]
theorem firstP_any (l : List Mv) (p : Mv → Bool) : decide (firstP l p ≥ 0) = l.any p := by
  unfold firstP
  cases h : l.findIdx? p with
  | none =>
    rw [List.findIdx?_eq_none_iff] at h
    have : l.any p = false := by rw [List.any_eq_false]; intro x hx; rw [h x hx]; simp
    rw [this]; rfl
  | some i =>
    rw [List.findIdx?_eq_some_iff_getElem] at h
    obtain ⟨h1, h2, _⟩ := h
    have : l.any p = true := List.any_eq_true.2 ⟨_, List.getElem_mem h1, h2⟩
    rw [this]; simp
theorem firstP_bound (l : List Mv) (p : Mv → Bool) : -1 ≤ firstP l p ∧ firstP l p < l.length := by
  unfold firstP
  cases h : l.findIdx? p with
  | none => simp; omega
  | some i =>
    rw [List.findIdx?_eq_some_iff_getElem] at h
    obtain ⟨h1, _⟩ := h
    simp only; omega

def winM (s : Tx) (t : Bool) (es : List (C × V)) : Mem := [(1003, .box 133 [.mp 1000]), (1004, .box 9 [.str s]), (1005, .box 4 [.bool t]), (1000, .ext (.mp none es))]
/-- What a function over moves that keeps the memo does. -/
def MemoFn (f : FuncId) (s : Tx) (t : Bool) (m : Mv) (q : Bool) : Prop := ∀ es, okWin es → Spec Tryd.prog f [.agg (mvC m), .c (.ptr 1003 0), .c (.ptr 1004 0), .c (.ptr 1005 0)] (winM s t es) (exRes okWin (fun _ => [vb q]) (fun es' => winM s t es'))

theorem indexFunc_spec (f : FuncId) (s : Tx) (t : Bool) (l : List Mv) (p : Mv → Bool) (hl : l.length ≤ 1000000) (H : ∀ m ∈ l, MemoFn f s t m (p m)) (es : List (C × V)) (hes : okWin es) :
    Spec Tryd.prog 224 [.c (.sl 1001), .c (.fn f [1003, 1004, 1005])] ((1001, .sl 53 2 (mvE l)) :: winM s t es)
      (exRes okWin (fun _ => [i64 (firstP l p)]) (fun es' => (1001, .sl 53 2 (mvE l)) :: winM s t es')) := by
  have hml := mvE_len l
  unfold MemoFn at H
  unfold winM at *
  refine Spec.of_wpx tt_ok Tryd.func224 (by kernel_rfl) rfl ?_
  (repeat' ((conv => whnf); first | refine CondVC.t ?_ | refine CondVC.f ?_ | refine CondVC.dec (fun h => ?_) (fun h => ?_) | refine CondVC.ndec (fun h => ?_) (fun h => ?_) | refine CondVC.mk (fun h => ?_) (fun h => ?_) | refine ArVC.i64 (by first | omega | (simp only; omega)) ?_ | refine SideVC.mk (by first | omega | decide | (simp only; omega) | (simp [slS]; done) | (simp [slS]; omega) | (simp only [byteE_len, mvE_len, strE_len, intE_len, esC_len, List.length_cons, List.length_nil, List.length_append, List.length_replicate, List.length_set, Int.toNat_natCast, and_true] at *; omega)) ?_ | refine LoopN.go ?_ | exact trivial | refine AltVC.mk ?_ ?_ | refine HeldVC.mk rfl ?_ | refine OpVC.more tt_ok ?_ | refine RestVC.ext tt_ok ?_)); all_goals (conv => whnf)
  refine LoopVC.mk (G := Nat × List (C × V)) (fun g => ⟨[(8, .v (i64 g.1)), (7, .v (i64 l.length)), (1, .v (.c (.fn f [1003, 1004, 1005]))), (0, .v (.c (.sl 1001)))],
      [(1001, .sl 53 2 (mvE l)), (1003, .box 133 [.mp 1000]), (1004, .box 9 [.str s]), (1005, .box 4 [.bool t]), (1000, .ext (.mp none g.2))]⟩)
    (fun g => g.1 ≤ l.length ∧ okWin g.2 ∧ ∀ j (hj : j < l.length), j < g.1 → p l[j] = false) (fun g => l.length - g.1) (0, es) ⟨by omega, hes, fun j hj h => by simp at h⟩ (Sub.mk [] _ ⟨rfl, by rw [hml]; rfl, rfl, rfl, trivial⟩ rfl rfl) ?_
  rintro ⟨k, es⟩ ⟨hk, hes, hp⟩
  simp only at hk hes hp
  by_cases hlt : k < l.length
  · have hmem := List.getElem_mem hlt
    have g1 : (mvE l)[(k : Int).toNat]? = some (mvC l[k]) := by rw [Int.toNat_natCast]; exact mvE_get hlt
    have hr := H _ hmem es hes
    cases hq : p l[k]
    all_goals
      rw [hq] at hr
      (repeat' ((conv => whnf); first | refine CondVC.t ?_ | refine CondVC.f ?_ | refine CondVC.dec (fun h => ?_) (fun h => ?_) | refine CondVC.ndec (fun h => ?_) (fun h => ?_) | refine CondVC.mk (fun h => ?_) (fun h => ?_) | refine ArVC.i64 (by first | omega | (simp only; omega)) ?_ | refine SideVC.mk (by first | omega | decide | (simp only; omega) | (simp [slS]; done) | (simp [slS]; omega) | (simp only [byteE_len, mvE_len, strE_len, intE_len, esC_len, List.length_cons, List.length_nil, List.length_append, List.length_replicate, List.length_set, Int.toNat_natCast, and_true] at *; omega)) ?_ | refine LoopN.go ?_ | exact trivial | refine AltVC.mk ?_ ?_ | refine HeldVC.mk rfl ?_ | refine LoadVC.mk _ g1 ?_ | refine SideVC.mk (by rw [hml]; omega) ?_ | (refine CallVC.ex [1003, 1004, 1005, 1000] rfl hr ?_; intro es' hes'; refine ⟨rfl, ?_⟩) | refine OpVC.more tt_ok ?_ | refine RestVC.ext tt_ok ?_)); all_goals (conv => whnf)
      all_goals first
        | (exfalso; omega)
        | exact ⟨(k + 1, es'), ⟨by omega, hes', fun j hj h => by
            by_cases e : j = k
            · subst e; exact hq
            · exact hp j hj (by omega)⟩, by simp only; omega, Sub.mk [] _ ⟨rfl, rfl, rfl, rfl, trivial⟩ rfl rfl⟩
        | exact RetVC.mk rfl ⟨es', hes', by rw [firstP_at hlt hq hp]; rfl, rfl⟩
  · (repeat' ((conv => whnf); first | refine CondVC.t ?_ | refine CondVC.f ?_ | refine CondVC.dec (fun h => ?_) (fun h => ?_) | refine CondVC.ndec (fun h => ?_) (fun h => ?_) | refine CondVC.mk (fun h => ?_) (fun h => ?_) | refine ArVC.i64 (by first | omega | (simp only; omega)) ?_ | refine SideVC.mk (by first | omega | decide | (simp only; omega) | (simp [slS]; done) | (simp [slS]; omega) | (simp only [byteE_len, mvE_len, strE_len, intE_len, esC_len, List.length_cons, List.length_nil, List.length_append, List.length_replicate, List.length_set, Int.toNat_natCast, and_true] at *; omega)) ?_ | refine LoopN.go ?_ | exact trivial | refine AltVC.mk ?_ ?_ | refine HeldVC.mk rfl ?_ | refine OpVC.more tt_ok ?_ | refine RestVC.ext tt_ok ?_)); all_goals (conv => whnf)
    all_goals first
      | (exfalso; omega)
      | exact RetVC.mk rfl ⟨es, hes, by rw [firstP_none fun j hj => hp j hj (by omega)]; rfl, rfl⟩

theorem containsFunc_spec (f : FuncId) (s : Tx) (t : Bool) (l : List Mv) (p : Mv → Bool) (hl : l.length ≤ 1000000) (H : ∀ m ∈ l, MemoFn f s t m (p m)) (es : List (C × V)) (hes : okWin es) :
    Spec Tryd.prog 210 [.c (.sl 1001), .c (.fn f [1003, 1004, 1005])] ((1001, .sl 53 2 (mvE l)) :: winM s t es)
      (exRes okWin (fun _ => [vb (l.any p)]) (fun es' => (1001, .sl 53 2 (mvE l)) :: winM s t es')) := by
  have h1 := indexFunc_spec f s t l p hl H es hes
  rw [← firstP_any]
  generalize firstP l p = q at *
  unfold winM at *
  refine Spec.of_wpx tt_ok Tryd.func210 (by kernel_rfl) rfl ?_
  (repeat' ((conv => whnf); first | refine CondVC.t ?_ | refine CondVC.f ?_ | refine CondVC.dec (fun h => ?_) (fun h => ?_) | refine CondVC.ndec (fun h => ?_) (fun h => ?_) | refine CondVC.mk (fun h => ?_) (fun h => ?_) | refine ArVC.i64 (by first | omega | (simp only; omega)) ?_ | refine SideVC.mk (by first | omega | decide | (simp only; omega) | (simp [slS]; done) | (simp [slS]; omega) | (simp only [byteE_len, mvE_len, strE_len, intE_len, esC_len, List.length_cons, List.length_nil, List.length_append, List.length_replicate, List.length_set, Int.toNat_natCast, and_true] at *; omega)) ?_ | refine LoopN.go ?_ | exact trivial | refine AltVC.mk ?_ ?_ | refine HeldVC.mk rfl ?_ | (refine CallVC.ex [1001, 1003, 1004, 1005, 1000] rfl h1 ?_; intro es' hes'; refine ⟨rfl, ?_⟩) | refine OpVC.more tt_ok ?_ | refine RestVC.ext tt_ok ?_)); all_goals (conv => whnf)
  all_goals exact RetVC.mk rfl ⟨es', hes', rfl, rfl⟩

/-! ### The game itself -/
def WinS (s : Tx) (t : Bool) : Prop := ∀ es, okWin es → Spec Tryd.prog 182 [.agg [.mp 1000], .c (.str s), vb t] [(1000, .ext (.mp none es))] (exRes okWin (fun _ => [vb (winF s t)]) (fun es' => [(1000, .ext (.mp none es'))]))

theorem win1_spec (s : Tx) (t : Bool) (m : Mv) (hm : m ∈ movesF s (kOf t)) (hs : s.length ≤ 1000) (ih : WinS (madeF s m) (!t)) : MemoFn 211 s t m (!winF (madeF s m) (!t)) := by
  intro es hes
  obtain ⟨i1, i2, i3⟩ := movesF_in hm
  have h1 := made_spec s m i1 i2 (by omega)
  have h2 := ih es hes
  generalize madeF s m = s' at *
  generalize winF s' (!t) = q at *
  unfold winM at *
  refine Spec.of_wpx tt_ok Tryd.func211 (by kernel_rfl) rfl ?_
  (repeat' ((conv => whnf); first | refine CondVC.t ?_ | refine CondVC.f ?_ | refine CondVC.dec (fun h => ?_) (fun h => ?_) | refine CondVC.ndec (fun h => ?_) (fun h => ?_) | refine CondVC.mk (fun h => ?_) (fun h => ?_) | refine ArVC.i64 (by first | omega | (simp only; omega)) ?_ | refine SideVC.mk (by first | omega | decide | (simp only; omega) | (simp [slS]; done) | (simp [slS]; omega) | (simp only [byteE_len, mvE_len, strE_len, intE_len, esC_len, List.length_cons, List.length_nil, List.length_append, List.length_replicate, List.length_set, Int.toNat_natCast, and_true] at *; omega)) ?_ | refine LoopN.go ?_ | exact trivial | refine AltVC.mk ?_ ?_ | refine HeldVC.mk rfl ?_ | refine DrawVC.tree (id := 1) tt_ok [4, 1003, 1004, 1005] tr211_1 (by kernel_rfl) (by kernel_rfl) rfl ?_ | refine CallVC.pure h1 rfl ?_ | (refine CallVC.ex [1000] rfl h2 ?_; intro es' hes'; refine ⟨rfl, ?_⟩) | refine OpVC.more tt_ok ?_ | refine RestVC.ext tt_ok ?_)); all_goals (conv => whnf)
  all_goals exact RetVC.mk rfl ⟨es', hes', rfl, rfl⟩

theorem winOf_spec : ∀ (n : Nat) (s : Tx) (t : Bool), wayF s < n → s.length ≤ 1000 → WinS s t
  | 0, s, t, hn, _ => absurd hn (Nat.not_lt_zero _)
  | n + 1, s, t, hn, hs => by
    intro es hes
    have h1 := moves_spec s (kOf t) (by omega)
    have hll := movesF_len s (kOf t)
    have H : ∀ m ∈ movesF s (kOf t), MemoFn 211 s t m (!winF (madeF s m) (!t)) := fun m hm =>
      win1_spec s t m hm hs (winOf_spec n (madeF s m) (!t) (by have := way_made hm; omega) (by rw [madeF_len]; exact hs))
    have h3 := containsFunc_spec 211 s t (movesF s (kOf t)) (fun m => !winF (madeF s m) (!t)) (by omega) H es hes
    rw [← winF_eq] at h3
    have h4 := Spec.renE [(1003, 3), (1004, 4), (1005, 5)] [(3, 1003), (4, 1004), (5, 1005)] h3 (fun _ => rfl) (fun _ => rfl) rfl
    have hget : ∀ v, getM es (.str (kOf t ++ s)) = some v → v = vb (winF s t) := fun v hv => okWin_get hes hv
    have hset : ∀ es, okWin es → okWin (setM es (.str (kOf t ++ s)) (vb (winF s t))) := fun es h => okWin_set h
    have hko := kindOf_spec t
    have hkl : (kOf t).length = 1 := by cases t <;> rfl
    generalize kOf t = kd at *
    generalize winF s t = q at *
    generalize movesF s kd = l at *
    unfold winM at *
    refine Spec.of_wpx tt_ok Tryd.func182 (by kernel_rfl) rfl ?_
    (repeat' ((conv => whnf); first | refine CondVC.t ?_ | refine CondVC.f ?_ | refine CondVC.dec (fun h => ?_) (fun h => ?_) | refine CondVC.ndec (fun h => ?_) (fun h => ?_) | refine CondVC.mk (fun h => ?_) (fun h => ?_) | refine ArVC.i64 (by first | omega | (simp only; omega)) ?_ | refine SideVC.mk (by first | omega | decide | (simp only; omega) | (simp [slS]; done) | (simp [slS]; omega) | (simp only [byteE_len, mvE_len, strE_len, intE_len, esC_len, List.length_cons, List.length_nil, List.length_append, List.length_replicate, List.length_set, Int.toNat_natCast, and_true] at *; omega)) ?_ | refine LoopN.go ?_ | exact trivial | refine AltVC.mk ?_ ?_ | refine HeldVC.mk rfl ?_ | refine DrawVC.tree (id := 1) tt_ok [3, 4, 5, 1000] tr182_1 (by kernel_rfl) (by kernel_rfl) rfl ?_ | refine DrawVC.tree (id := 5) tt_ok [3, 4, 5] tr182_5 (by kernel_rfl) (by kernel_rfl) rfl ?_ | refine CallVC.pure hko rfl ?_ | (refine LookVC.mk (fun v hv => ?_) (fun hv => ?_); obtain rfl := hget _ hv) | refine CallVC.res [] rfl h1 rfl ?_ | (refine CallVC.ex [1001, 3, 4, 5, 1000] rfl h4 ?_; intro es' hes'; refine ⟨rfl, ?_⟩) | refine OpVC.more tt_ok ?_ | refine RestVC.ext tt_ok ?_)); all_goals (conv => whnf)
    all_goals first
      | exact RetVC.mk rfl ⟨es, hes, rfl, rfl⟩
      | exact RetVC.mk rfl ⟨_, hset _ hes', rfl, rfl⟩

theorem winS_all (s : Tx) (t : Bool) (hs : s.length ≤ 1000) : WinS s t := winOf_spec (wayF s + 1) s t (by omega) hs

theorem newGames_spec : Spec Tryd.prog 141 [] [] (isRes [.agg [.mp 1000]] [(1000, .ext (.mp none []))]) := by
  refine Spec.of_wpx tt_ok Tryd.func141 (by kernel_rfl) rfl ?_
  (repeat' ((conv => whnf); first | refine CondVC.t ?_ | refine CondVC.f ?_ | refine CondVC.dec (fun h => ?_) (fun h => ?_) | refine CondVC.ndec (fun h => ?_) (fun h => ?_) | refine CondVC.mk (fun h => ?_) (fun h => ?_) | refine ArVC.i64 (by first | omega | (simp only; omega)) ?_ | refine SideVC.mk (by first | omega | decide | (simp only; omega) | (simp [slS]; done) | (simp [slS]; omega) | (simp only [byteE_len, mvE_len, strE_len, intE_len, esC_len, List.length_cons, List.length_nil, List.length_append, List.length_replicate, List.length_set, Int.toNat_natCast, and_true] at *; omega)) ?_ | refine LoopN.go ?_ | exact trivial | refine AltVC.mk ?_ ?_ | refine HeldVC.mk rfl ?_ | refine OpVC.more tt_ok ?_ | refine RestVC.ext tt_ok ?_)); all_goals (conv => whnf)
  all_goals exact RetVC.ren [(1000, 1)] _ _ rfl rfl rfl ⟨rfl, rfl⟩
theorem okWin_nil : okWin [] := fun p hp => by cases hp

def outF (a b : Bool) : Tx := if a && b then [49] else if a then [84] else if b then [70] else [50]
theorem outcomeE_spec (s : Tx) (hs : s.length ≤ 1000) (es : List (C × V)) (hes : okWin es) : Spec Tryd.prog 142 [.agg [.mp 1000], .c (.str s)] [(1000, .ext (.mp none es))] (exRes okWin (fun _ => [.c (.str (outF (winF s true) (winF s false)))]) (fun es' => [(1000, .ext (.mp none es'))])) := by
  have h1 := winS_all s true hs es hes
  have h2 := fun es h => winS_all s false hs es h
  generalize winF s true = a at *
  generalize winF s false = b at *
  refine Spec.of_wpx tt_ok Tryd.func142 (by kernel_rfl) rfl ?_
  cases a <;> cases b
  all_goals
    (repeat' ((conv => whnf); first | refine CondVC.t ?_ | refine CondVC.f ?_ | refine CondVC.dec (fun h => ?_) (fun h => ?_) | refine CondVC.ndec (fun h => ?_) (fun h => ?_) | refine CondVC.mk (fun h => ?_) (fun h => ?_) | refine ArVC.i64 (by first | omega | (simp only; omega)) ?_ | refine SideVC.mk (by first | omega | decide | (simp only; omega) | (simp [slS]; done) | (simp [slS]; omega) | (simp only [byteE_len, mvE_len, strE_len, intE_len, esC_len, List.length_cons, List.length_nil, List.length_append, List.length_replicate, List.length_set, Int.toNat_natCast, and_true] at *; omega)) ?_ | refine LoopN.go ?_ | exact trivial | refine AltVC.mk ?_ ?_ | refine HeldVC.mk rfl ?_ | refine DrawVC.tree (id := 1) tt_ok [2] tr142_1 (by kernel_rfl) (by kernel_rfl) rfl ?_ | (refine CallVC.ex [1000] rfl h1 ?_; intro es1 hes1; refine ⟨rfl, ?_⟩) | (refine CallVC.ex [1000] rfl (h2 es1 hes1) ?_; intro es2 hes2; refine ⟨rfl, ?_⟩) | refine OpVC.more tt_ok ?_ | refine RestVC.ext tt_ok ?_)); all_goals (conv => whnf)
    all_goals exact RetVC.mk rfl ⟨_, hes2, rfl, rfl⟩

theorem outcome_spec (s : Tx) (hs : s.length ≤ 1000) : Spec Tryd.prog 142 [.agg [.mp 1000], .c (.str s)] [(1000, .ext (.mp none []))] (exRes okWin (fun _ => [.c (.str (outF (winF s true) (winF s false)))]) (fun es' => [(1000, .ext (.mp none es'))])) := outcomeE_spec s hs [] okWin_nil

/-! ### Sums -/
def sumOkF (ls : List Tx) : Bool := decide (1 ≤ (ls.length : Int) ∧ (ls.length : Int) ≤ 3) && (ls.all (fun w => lineOf w 10) && decide ((sumF ls : Int) ≤ 10))
theorem sumF_take {ls : List Tx} {k : Nat} (h : k < ls.length) : sumF (ls.take (k + 1)) = sumF (ls.take k) + ls[k].length := by
  unfold sumF; rw [List.take_succ_eq_append_getElem h, List.map_append, List.sum_append]; simp
theorem join_join : ∀ ls : List Tx, Lib.join ls [32] = joinF ls
  | [] => rfl
  | [a] => by rw [Lib.join_one]; rfl
  | a :: b :: r => by
    rw [joinF, ← join_join (b :: r), Lib.join_cons, Lib.join_cons]
    simp [Lib.joinTail, glue]
theorem joinF_len : ∀ ls : List Tx, (joinF ls).length ≤ sumF ls + ls.length
  | [] => by simp [joinF]
  | [a] => by simp [joinF, sumF]
  | a :: b :: r => by
    have := joinF_len (b :: r)
    rw [joinF, glue_len]
    simp [sumF] at this ⊢
    omega

end Go.Proofs.YtmdipjoogcdngaaDoor.X
