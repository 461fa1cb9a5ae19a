/- Lines that are reached: the program's search; whether and after how many moves. No condition beyond each statement's. -/
import Derived.Test.YtblihaicbhdbdaaDoorBfsF
import Derived.Test.YtblihaicbhdbdaaDoorLayers
import Derived.Test.YtblihaicbhdbdaaDoorQueue
import Derived.Test.YtblihaicbhdbdaaDoorEdge
namespace Go.Proofs.YtblihaicbhdbdaaDoor.X
open Go.Proofs
set_option maxRecDepth 100000
set_option linter.unusedVariables false
set_option linter.unusedSimpArgs false

def bE (w : Tx) (ks : List Tx) : List (C × V) := ks.map fun v => (.str v, i64 (dF w v))
theorem bE_some {w v : Tx} {x : V} : ∀ {ks : List Tx}, getM (bE w ks) (.str v) = some x → v ∈ ks ∧ x = i64 (dF w v)
  | [], h => by cases h
  | u :: ks, h => by
    simp only [bE, List.map_cons, getM] at h
    split at h
    · rename_i hk
      simp only [keyEq, decide_eq_true_eq] at hk
      subst hk
      exact ⟨by simp, (Option.some.inj h).symm⟩
    · obtain ⟨h1, h2⟩ := bE_some (ks := ks) h
      exact ⟨List.mem_cons_of_mem _ h1, h2⟩
theorem bE_mem {w v : Tx} : ∀ {ks : List Tx}, v ∈ ks → getM (bE w ks) (.str v) = some (i64 (dF w v))
  | [], h => by cases h
  | u :: ks, h => by
    simp only [bE, List.map_cons, getM]
    split
    · rename_i hk
      simp only [keyEq, decide_eq_true_eq] at hk
      subst hk; rfl
    · rename_i hk
      simp only [keyEq, decide_eq_true_eq] at hk
      exact bE_mem ((List.mem_cons.1 h).resolve_left hk)
theorem bE_none {w v : Tx} {ks : List Tx} (h : getM (bE w ks) (.str v) = none) : v ∉ ks := fun hm => by rw [bE_mem hm] at h; cases h
theorem bE_set {w v : Tx} : ∀ {ks : List Tx}, v ∉ ks → setM (bE w ks) (.str v) (i64 (dF w v)) = bE w (ks ++ [v])
  | [], h => rfl
  | u :: ks, h => by
    simp only [List.mem_cons, not_or] at h
    simp only [bE, List.map_cons, List.cons_append, setM]
    rw [if_neg (by simp only [keyEq, decide_eq_true_eq]; exact h.1)]
    exact congrArg _ (bE_set (ks := ks) h.2)
theorem bE_len (w : Tx) (ks : List Tx) : (bE w ks).length = ks.length := by simp [bE]
def okKs (w : Tx) (ks : List Tx) : Prop := ks.Nodup ∧ ∀ v, v ∈ ks ↔ ∃ k, Reach w v k

theorem reached_spec (w : Tx) (hok : w.all okCh = true) (hw : w.length ≤ 14) : Spec Tryd.prog 76 [.c (.str w)] []
    (exRes (okKs w) (fun _ => [.c (.mp 1000)]) (fun ks => [(1000, .ext (.mp none (bE w ks)))])) := by
  have h00 : setM [] (C.str w) (i64 0) = bE w [w] := by unfold bE; rw [List.map_cons, dF_self]; rfl
  refine Spec.of_wpx tt_ok Tryd.func76 (by kernel_rfl) rfl ?_
  (repeat' ((conv => whnf); first | refine CondVC.t ?_ | refine CondVC.f ?_ | refine CondVC.dec (fun h => ?_) (fun h => ?_) | refine CondVC.ndec (fun h => ?_) (fun h => ?_) | refine CondVC.mk (fun h => ?_) (fun h => ?_) | refine ArVC.i64 (by first | omega | (simp only; omega)) ?_ | refine SideVC.mk (by first | omega | decide | (simp only; omega) | (simp [slS]; done) | (simp [slS]; omega) | (simp only [byteE_len, mvE_len, strE_len, intE_len, esC_len, List.length_cons, List.length_nil, List.length_append, List.length_replicate, List.length_set, Int.toNat_natCast, and_true] at *; omega)) ?_ | refine LoopN.go ?_ | exact trivial | refine AltVC.mk ?_ ?_ | refine HeldVC.mk rfl ?_ | refine OpVC.more tt_ok ?_ | refine RestVC.ext tt_ok ?_)); all_goals (conv => whnf)
  refine LoopVC.mk (G := List Tx × List Tx × Nat × List (List C)) (fun γ => ⟨[(4, .v (.c (.sub 3001 γ.2.2.1 1 (γ.2.2.2.length - γ.2.2.1)))), (3, .v (.c (.mp 10)))], [(3001, .sl 9 1 γ.2.2.2), (10, .ext (.mp none (bE w γ.1)))]⟩)
    (fun γ => Bfs w γ.1 γ.2.1 ∧ γ.2.2.1 ≤ γ.2.2.2.length ∧ γ.2.2.2.drop γ.2.2.1 = strE γ.2.1 ∧ γ.2.2.2.length ≤ γ.1.length) (fun γ => 2 * (4398046511104 - γ.1.length) + γ.2.1.length) ([w], [w], 0, [[.str w]])
    ⟨bfs_start w, Nat.zero_le _, rfl, Nat.le_refl _⟩
    (Sub.trans (t := ⟨[(4, .v (.c (.sub 14 0 1 1))), (3, .v (.c (.mp 10)))], [(14, .sl 9 1 [[.str w]]), (10, .ext (.mp none (setM [] (C.str w) (i64 0))))]⟩)
      (Sub.rest (T := 9) (sz := 1) (es := [[.str w]]) 14 rfl (by exact ⟨rfl, rfl, trivial⟩))
      (Sub.mk [(3001, 14)] [] ⟨rfl, rfl, trivial⟩ (by simp only [h00]; rfl) rfl)) ?_
  rintro ⟨ks, Q, lo, q⟩ ⟨hB, hlo, hq, hqk⟩
  simp only at hB hlo hq hqk
  have hks := bfs_few hok hw hB
  have hql : q.length - lo = Q.length := by have := congrArg List.length hq; rw [List.length_drop, strE_len] at this; exact this
  cases Q with
  | nil =>
    simp only [List.length_nil] at hql
    have hall : okKs w ks := ⟨hB.nodup, fun v => bfs_all hB⟩
    (repeat' ((conv => whnf); first | refine CondVC.t ?_ | refine CondVC.f ?_ | refine CondVC.dec (fun h => ?_) (fun h => ?_) | refine CondVC.ndec (fun h => ?_) (fun h => ?_) | refine CondVC.mk (fun h => ?_) (fun h => ?_) | refine ArVC.i64 (by first | omega | (simp only; omega)) ?_ | refine SideVC.mk (by first | omega | decide | (simp only; omega) | (simp [slS]; done) | (simp [slS]; omega) | (simp only [byteE_len, mvE_len, strE_len, intE_len, esC_len, List.length_cons, List.length_nil, List.length_append, List.length_replicate, List.length_set, Int.toNat_natCast, and_true] at *; omega)) ?_ | refine LoopN.go ?_ | exact trivial | refine AltVC.mk ?_ ?_ | refine HeldVC.mk rfl ?_ | refine OpVC.more tt_ok ?_ | refine RestVC.ext tt_ok ?_)); all_goals (conv => whnf)
    all_goals first
      | (exfalso; simp only at *; omega)
      | exact RetVC.ren [(1000, 10)] [.c (.mp 1000)] [(1000, .ext (.mp none (bE w ks)))] rfl rfl rfl ⟨ks, hall, rfl, rfl⟩
  | cons v R =>
    simp only [List.length_cons] at hql
    have hvk := hB.sub v (by simp)
    obtain ⟨hvok, hvl⟩ := bfs_ok hok hB hvk
    have hg : ∀ (q' : List (List C)) (lo' : Nat) (R' : List Tx), q'.drop lo' = strE (v :: R') → q'[lo' + (0 : Int).toNat]? = some [.str v] := fun q' lo' R' h => by
      have : (q'.drop lo')[0]? = some [.str v] := by rw [h]; rfl
      rw [List.getElem?_drop] at this; exact this
    have g0 := hg q lo R hq
    have hmv := Spec.ren [(1001, 2001)] [(2001, 1001)] (moves_spec v both (by omega)) rfl rfl rfl
    have hin : ∀ m ∈ movesF v both, _ := fun m hm => movesF_in hm
    have hmk : ∀ m ∈ movesF v both, _ := fun m hm => made_spec v m (hin m hm).1 (hin m hm).2.1 (by omega)
    have hd : ∀ m ∈ movesF v both, _ := fun m hm => dF_made (w := w) hm
    have hml := mvE_len (movesF v both)
    have hdv := dF_bound hw (hB.reach v hvk)
    have hmvl := movesF_len v both
    (repeat' ((conv => whnf); first | refine CondVC.t ?_ | refine CondVC.f ?_ | refine CondVC.dec (fun h => ?_) (fun h => ?_) | refine CondVC.ndec (fun h => ?_) (fun h => ?_) | refine CondVC.mk (fun h => ?_) (fun h => ?_) | refine ArVC.i64 (by first | omega | (simp only; omega)) ?_ | refine SideVC.mk (by first | omega | decide | (simp only; omega) | (simp [slS]; done) | (simp [slS]; omega) | (simp only [byteE_len, mvE_len, strE_len, intE_len, esC_len, List.length_cons, List.length_nil, List.length_append, List.length_replicate, List.length_set, Int.toNat_natCast, and_true] at *; omega)) ?_ | refine LoopN.go ?_ | exact trivial | refine AltVC.mk ?_ ?_ | refine HeldVC.mk rfl ?_ | refine LoadVC.mk _ g0 ?_ | refine SideVC.mk (by simp only; omega) ?_ | refine CallVC.res [] rfl hmv rfl ?_ | refine OpVC.more tt_ok ?_ | refine RestVC.ext tt_ok ?_)); all_goals (conv => whnf)
    all_goals try (exfalso; simp only at *; omega)
    refine LoopVC.mk (G := Nat × List Tx × List Tx × Nat × List (List C)) (fun γ => ⟨[(25, .v (i64 γ.1)), (24, .v (i64 (movesF v both).length)), (23, .v (.c (.sl 2001))), (4, .v (.c (.sub 3001 γ.2.2.2.1 1 (γ.2.2.2.2.length - γ.2.2.2.1)))), (3, .v (.c (.mp 10)))],
        [(2001, .sl 45 2 (mvE (movesF v both))), (3001, .sl 9 1 γ.2.2.2.2), (10, .ext (.mp none (bE w γ.2.1)))]⟩)
      (fun γ => γ.1 ≤ (movesF v both).length ∧ BfsM w γ.2.1 v γ.2.2.1 γ.1 ∧ γ.2.2.2.1 ≤ γ.2.2.2.2.length ∧ γ.2.2.2.2.drop γ.2.2.2.1 = strE (v :: γ.2.2.1) ∧ γ.2.2.2.2.length ≤ γ.2.1.length ∧ γ.2.2.1.length + ks.length = R.length + γ.2.1.length ∧ ks.length ≤ γ.2.1.length) (fun γ => (movesF v both).length - γ.1) (0, ks, R, lo, q)
      ⟨Nat.zero_le _, bfsM_start hB, hlo, hq, hqk, rfl, Nat.le_refl _⟩ (Sub.mk [] _ ⟨rfl, by rw [hml]; rfl, rfl, rfl, rfl, trivial⟩ rfl rfl) ?_
    rintro ⟨j, ks', R', lo', q'⟩ ⟨hj, hM, hlo', hq', hqk', hsum, hge⟩
    simp only at hj hM hlo' hq' hqk' hsum hge
    have hql' : q'.length - lo' = R'.length + 1 := by have := congrArg List.length hq'; rw [List.length_drop, strE_len] at this; exact this
    have hks' := bfs_few hok hw hM.b
    have g0' := hg q' lo' R' hq'
    by_cases hjl : j < (movesF v both).length
    · have hmem := List.getElem_mem hjl
      have gj : (mvE (movesF v both))[(j : Int).toNat]? = some (mvC (movesF v both)[j]) := by rw [Int.toNat_natCast]; exact mvE_get hjl
      have h6 := hmk _ hmem
      have hdm := hd _ hmem
      have hold := bfsM_old hM hjl
      have hnew := bfsM_new hM hjl
      obtain ⟨u, hu⟩ : ∃ u, u = madeF v (movesF v both)[j] := ⟨_, rfl⟩
      rw [← hu] at h6 hdm hold hnew
      have hset : u ∉ ks' → setM (bE w ks') (C.str u) (V.c (C.int .i64 (dF w v + 1))) = bE w (ks' ++ [u]) := fun h => by rw [← hdm]; exact bE_set h
      have hdv' := hdv
      have hgetv : getM (bE w ks') (.str v) = some (i64 (dF w v)) := bE_mem (hM.b.sub v (by simp))
      (repeat' ((conv => whnf); first | refine CondVC.t ?_ | refine CondVC.f ?_ | refine CondVC.dec (fun h => ?_) (fun h => ?_) | refine CondVC.ndec (fun h => ?_) (fun h => ?_) | refine CondVC.mk (fun h => ?_) (fun h => ?_) | refine ArVC.i64 (by first | omega | (simp only; omega)) ?_ | refine SideVC.mk (by first | omega | decide | (simp only; omega) | (simp [slS]; done) | (simp [slS]; omega) | (simp only [byteE_len, mvE_len, strE_len, intE_len, esC_len, List.length_cons, List.length_nil, List.length_append, List.length_replicate, List.length_set, Int.toNat_natCast, and_true] at *; omega)) ?_ | refine LoopN.go ?_ | exact trivial | refine AltVC.mk ?_ ?_ | refine HeldVC.mk rfl ?_ | refine LoadVC.mk _ gj ?_ | refine LoadVC.mk _ g0' ?_ | refine SideVC.mk (by rw [hml]; omega) ?_ | refine SideVC.mk (by simp only; omega) ?_ | refine DrawVC.tree (id := 8) tt_ok [6, 3001] tx76_8 (by kernel_rfl) (by kernel_rfl) rfl ?_ | refine CallVC.pure h6 rfl ?_ | (refine LookVC.mk (fun x hx => ?_) (fun hx => ?_); obtain ⟨hxm, rfl⟩ := bE_some hx) | refine RestVC2.appendQ tt_ok rfl rfl rfl rfl rfl rfl rfl trivial (by simp only; omega) (Nat.succ_pos _) rfl (by simp only [List.length_cons, List.length_nil]; omega) (fun lo2 es2 k1 k2 k3 => ?_) | refine OpVC.more tt_ok ?_ | refine RestVC.ext tt_ok ?_)); all_goals (conv => whnf)
      all_goals first
        | (exfalso; simp only at *; omega)
        | exact ⟨(j+1, ks', R', lo', q'), ⟨by simp only; omega, hold hxm, hlo', hq', hqk', hsum, hge⟩, by simp only; omega, Sub.mk [] _ ⟨rfl, rfl, rfl, rfl, rfl, trivial⟩ rfl rfl⟩
        | (refine ⟨(j+1, ks' ++ [u], R' ++ [u], lo2, es2), ⟨by simp only; omega, hnew (bE_none (by assumption)), k1, by rw [k2, hq']; simp [strE], by simp only [List.length_append, List.length_cons, List.length_nil] at k3 ⊢; omega, by simp only [List.length_append, List.length_cons, List.length_nil]; omega, by simp only [List.length_append, List.length_cons, List.length_nil]; omega⟩, by simp only; omega, ?_⟩
           have hs2 := hset (bE_none (by assumption))
           exact Sub.mk [(3001, 53)] _ ⟨rfl, rfl, rfl, rfl, rfl, trivial⟩ (by simp only [hs2]; rfl) rfl)
        | (exfalso; rw [hgetv] at *; simp_all; done)
        | skip
    · have hE := bfsM_end hM (by omega)
      have hf1 : lo' + (q'.length - lo') = q'.length := by omega
      have hf2 : (0 : Int) ≤ 1 ∧ (1 : Int) ≤ ((q'.length - lo' : Nat) : Int) := by omega
      (repeat' ((conv => whnf); first | refine CondVC.t ?_ | refine CondVC.f ?_ | refine CondVC.dec (fun h => ?_) (fun h => ?_) | refine CondVC.ndec (fun h => ?_) (fun h => ?_) | refine CondVC.mk (fun h => ?_) (fun h => ?_) | refine ArVC.i64 (by first | omega | (simp only; omega)) ?_ | refine SideVC.mk (by first | omega | decide | (simp only; omega) | (simp [slS]; done) | (simp [slS]; omega) | (simp only [byteE_len, mvE_len, strE_len, intE_len, esC_len, List.length_cons, List.length_nil, List.length_append, List.length_replicate, List.length_set, Int.toNat_natCast, and_true] at *; omega)) ?_ | refine LoopN.go ?_ | exact trivial | refine AltVC.mk ?_ ?_ | refine HeldVC.mk rfl ?_ | refine RestVC2.restQ tt_ok rfl rfl rfl rfl rfl rfl hf1 hf2 rfl rfl (fun lo2 es2 k1 k2 k3 => ?_) | refine OpVC.more tt_ok ?_ | refine RestVC.ext tt_ok ?_)); all_goals (conv => whnf)
      all_goals first
        | (exfalso; simp only at *; omega)
        | exact ⟨(ks', R', lo2, es2), ⟨hE, k1, by rw [k2, hq']; rfl, Nat.le_trans k3 hqk'⟩, by simp only [List.length_cons]; omega, Sub.mk [(3001, 19)] _ ⟨rfl, rfl, trivial⟩ rfl rfl⟩
end Go.Proofs.YtblihaicbhdbdaaDoor.X
