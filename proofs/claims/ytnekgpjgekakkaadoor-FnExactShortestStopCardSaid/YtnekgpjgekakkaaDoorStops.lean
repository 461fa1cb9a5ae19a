/- Longest plays and shortest stops: the program's and the reference's. No condition beyond each statement's. -/
import Derived.Test.YtnekgpjgekakkaaDoorBetween
import Derived.Test.YtnekgpjgekakkaaDoorRange
namespace Go.Proofs.YtnekgpjgekakkaaDoor.X
open Go.Proofs
set_option maxRecDepth 100000
set_option linter.unusedVariables false
set_option linter.unusedSimpArgs false

/-! ### Dead ends -/
def StopAt (w : Tx) (k : Nat) : Prop := ∃ v, v ∈ layF w k ∧ (movesF v both).length = 0
theorem stop_last (w : Tx) : StopAt w (depthF w) := by
  obtain ⟨v, hv⟩ := List.exists_mem_of_ne_nil _ (depth_ne (w := w) (Nat.le_refl (depthF w)))
  refine ⟨v, hv, ?_⟩
  apply Classical.byContradiction
  intro hn
  have hp : 0 < (movesF v both).length := by omega
  have hm := List.getElem_mem hp
  have hr : Reach w (madeF v (movesF v both)[0]) (depthF w + 1) := ⟨v, lay_mem.1 hv, _, hm, rfl⟩
  have := lay_mem.2 hr
  rw [depth_end] at this
  cases this
theorem stop_depth {w : Tx} {k : Nat} (h : StopAt w k) : k ≤ depthF w := by
  obtain ⟨v, hv, _⟩ := h
  exact reach_depth (lay_mem.1 hv)
theorem least {Q : Nat → Prop} (n : Nat) (h : Q n) : ∃ k, Q k ∧ ∀ j, j < k → ¬ Q j := by
  induction n using Nat.strongRecOn with
  | ind n ih =>
    by_cases hj : ∃ j, j < n ∧ Q j
    · obtain ⟨j, h1, h2⟩ := hj
      exact ih j h1 h2
    · exact ⟨n, h, fun j h1 h2 => hj ⟨j, h1, h2⟩⟩
noncomputable def stopF (w : Tx) : Nat := Classical.choose (least (Q := StopAt w) _ (stop_last w))
theorem stopF_at (w : Tx) : StopAt w (stopF w) ∧ ∀ j, j < stopF w → ¬ StopAt w j := Classical.choose_spec (least (Q := StopAt w) _ (stop_last w))
theorem stopF_eq {w : Tx} {k : Nat} (h : StopAt w k) (hn : ∀ j, j < k → ¬ StopAt w j) : stopF w = k := by
  obtain ⟨h1, h2⟩ := stopF_at w
  by_cases a : stopF w < k
  · exact absurd h1 (hn _ a)
  · by_cases b : k < stopF w
    · exact absurd h (h2 _ b)
    · omega

/-! ### The program's -/
theorem isBlockedR_spec (w : Tx) (hw : w.length ≤ 1000000) : Spec Tryd.prog 81 [.c (.str w)] [] (isRes [vb (decide (((movesF w both).length : Int) = 0))] []) := by
  have h1 := Spec.ren [(1001, 2001)] [(2001, 1001)] (moves_spec w both hw) rfl rfl rfl
  have hml := mvE_len (movesF w both)
  refine Spec.of_wpx tt_ok Tryd.func81 (by kernel_rfl) rfl ?_
  (repeat' ((conv => whnf); first | refine CondVC.t ?_ | refine CondVC.f ?_ | refine CondVC.dec (fun h => ?_) (fun h => ?_) | refine CondVC.ndec (fun h => ?_) (fun h => ?_) | refine CondVC.mk (fun h => ?_) (fun h => ?_) | refine ArVC.i64 (by first | omega | (simp only; omega)) ?_ | refine SideVC.mk (by first | omega | decide | (simp only; omega) | (simp [slS]; done) | (simp [slS]; omega) | (simp only [byteE_len, mvE_len, strE_len, intE_len, esC_len, List.length_cons, List.length_nil, List.length_append, List.length_replicate, List.length_set, Int.toNat_natCast, and_true] at *; omega)) ?_ | refine LoopN.go ?_ | exact trivial | refine AltVC.mk ?_ ?_ | refine HeldVC.mk rfl ?_ | refine CallVC.res [] rfl h1 rfl ?_ | refine OpVC.more tt_ok ?_ | refine RestVC.ext tt_ok ?_)); all_goals (conv => whnf)
  all_goals exact RetVC.res (by rw [hml]; rfl) rfl
def inE (l : List Int) : List (List C) := l.map fun n => [.int .i64 n]
theorem inE_len (l : List Int) : (inE l).length = l.length := by simp [inE]
theorem inE_get {l : List Int} {i : Nat} (h : i < l.length) : (inE l)[i]? = some [.int .i64 l[i]] := by unfold inE; rw [List.getElem?_map, List.getElem?_eq_getElem h]; rfl
theorem inE_app (l : List Int) (n : Int) : inE l ++ [[.int .i64 n]] = inE (l ++ [n]) := by simp [inE]
def isMax (l : List Int) (r : Int) : Prop := r ∈ l ∧ ∀ n ∈ l, n ≤ r
def isMin (l : List Int) (r : Int) : Prop := r ∈ l ∧ ∀ n ∈ l, r ≤ n
theorem slMax_spec (l : List Int) (h0 : 0 < l.length) (hl : l.length ≤ 4398046511104) : Spec Tryd.prog 50 [.c (.sl 1000)] [(1000, .sl 3 1 (inE l))]
    (exRes (isMax l) (fun r => [i64 r]) (fun _ => [(1000, .sl 3 1 (inE l))])) := by
  have hil := inE_len l
  have g0 : (inE l)[(0 : Int).toNat]? = some [.int .i64 l[0]] := inE_get h0
  refine Spec.of_wpx tt_ok Tryd.func50 (by kernel_rfl) rfl ?_
  (repeat' ((conv => whnf); first | refine CondVC.t ?_ | refine CondVC.f ?_ | refine CondVC.dec (fun h => ?_) (fun h => ?_) | refine CondVC.ndec (fun h => ?_) (fun h => ?_) | refine CondVC.mk (fun h => ?_) (fun h => ?_) | refine ArVC.i64 (by first | omega | (simp only; omega)) ?_ | refine SideVC.mk (by first | omega | decide | (simp only; omega) | (simp [slS]; done) | (simp [slS]; omega) | (simp only [byteE_len, mvE_len, strE_len, intE_len, esC_len, List.length_cons, List.length_nil, List.length_append, List.length_replicate, List.length_set, Int.toNat_natCast, and_true] at *; omega)) ?_ | refine LoopN.go ?_ | exact trivial | refine AltVC.mk ?_ ?_ | refine HeldVC.mk rfl ?_ | refine LoadVC.mk _ g0 ?_ | refine SideVC.mk (by simp only [hil]; omega) ?_ | refine OpVC.more tt_ok ?_ | refine RestVC.ext tt_ok ?_)); all_goals (conv => whnf)
  all_goals try (exfalso; omega)
  refine LoopVC.mk (G := Nat × Int) (fun γ => ⟨[(4, .v (i64 γ.1)), (3, .v (i64 γ.2)), (0, .v (.c (.sl 1000)))], [(1000, .sl 3 1 (inE l))]⟩)
    (fun γ => γ.1 ≤ l.length ∧ γ.2 ∈ l ∧ ∀ j (hj : j < l.length), j < γ.1 → l[j] ≤ γ.2) (fun γ => l.length - γ.1) (1, l[0]) ⟨h0, List.getElem_mem h0, fun j hj h => by
      have e : j = 0 := by simp only at h; omega
      subst e; exact Int.le_refl _⟩ (Sub.mk [] _ ⟨rfl, rfl, rfl, trivial⟩ rfl rfl) ?_
  rintro ⟨i, m⟩ ⟨hi, hm, hall⟩
  simp only at hi hm hall
  by_cases hlt : i < l.length
  · have gi : (inE l)[(i : Int).toNat]? = some [.int .i64 l[i]] := by rw [Int.toNat_natCast]; exact inE_get hlt
    have hnew : (if m < l[i] then l[i] else m) ∈ l ∧ ∀ j (hj : j < l.length), j < i + 1 → l[j] ≤ (if m < l[i] then l[i] else m) := by
      refine ⟨?_, fun j hj h => ?_⟩
      · split
        · exact List.getElem_mem hlt
        · exact hm
      · by_cases e : j = i
        · subst e; split <;> omega
        · have := hall j hj (by omega); split <;> omega
    generalize l[i] = x at *
    (repeat' ((conv => whnf); first | refine CondVC.t ?_ | refine CondVC.f ?_ | refine CondVC.dec (fun h => ?_) (fun h => ?_) | refine CondVC.ndec (fun h => ?_) (fun h => ?_) | refine CondVC.mk (fun h => ?_) (fun h => ?_) | refine ArVC.i64 (by first | omega | (simp only; omega)) ?_ | refine SideVC.mk (by first | omega | decide | (simp only; omega) | (simp [slS]; done) | (simp [slS]; omega) | (simp only [byteE_len, mvE_len, strE_len, intE_len, esC_len, List.length_cons, List.length_nil, List.length_append, List.length_replicate, List.length_set, Int.toNat_natCast, and_true] at *; omega)) ?_ | refine LoopN.go ?_ | exact trivial | refine AltVC.mk ?_ ?_ | refine HeldVC.mk rfl ?_ | refine LoadVC.mk _ gi ?_ | refine SideVC.mk (by simp only [hil]; omega) ?_ | refine OpVC.more tt_ok ?_ | refine RestVC.ext tt_ok ?_)); all_goals (conv => whnf)
    all_goals first
      | (exfalso; omega)
      | exact ⟨(i + 1, if m < x then x else m), ⟨by simp only; omega, hnew.1, hnew.2⟩, by simp only; omega, Sub.mk [] _ ⟨rfl, rfl, rfl, trivial⟩ rfl rfl⟩
  · (repeat' ((conv => whnf); first | refine CondVC.t ?_ | refine CondVC.f ?_ | refine CondVC.dec (fun h => ?_) (fun h => ?_) | refine CondVC.ndec (fun h => ?_) (fun h => ?_) | refine CondVC.mk (fun h => ?_) (fun h => ?_) | refine ArVC.i64 (by first | omega | (simp only; omega)) ?_ | refine SideVC.mk (by first | omega | decide | (simp only; omega) | (simp [slS]; done) | (simp [slS]; omega) | (simp only [byteE_len, mvE_len, strE_len, intE_len, esC_len, List.length_cons, List.length_nil, List.length_append, List.length_replicate, List.length_set, Int.toNat_natCast, and_true] at *; omega)) ?_ | refine LoopN.go ?_ | exact trivial | refine AltVC.mk ?_ ?_ | refine HeldVC.mk rfl ?_ | refine OpVC.more tt_ok ?_ | refine RestVC.ext tt_ok ?_)); all_goals (conv => whnf)
    all_goals first
      | (exfalso; simp only at *; omega)
      | exact RetVC.mk rfl ⟨m, ⟨hm, fun n hn => by
          obtain ⟨j, hj, rfl⟩ := List.getElem_of_mem hn
          exact hall j hj (by omega)⟩, rfl, rfl⟩
theorem slMin_spec (l : List Int) (h0 : 0 < l.length) (hl : l.length ≤ 4398046511104) : Spec Tryd.prog 53 [.c (.sl 1000)] [(1000, .sl 3 1 (inE l))]
    (exRes (isMin l) (fun r => [i64 r]) (fun _ => [(1000, .sl 3 1 (inE l))])) := by
  have hil := inE_len l
  have g0 : (inE l)[(0 : Int).toNat]? = some [.int .i64 l[0]] := inE_get h0
  refine Spec.of_wpx tt_ok Tryd.func53 (by kernel_rfl) rfl ?_
  (repeat' ((conv => whnf); first | refine CondVC.t ?_ | refine CondVC.f ?_ | refine CondVC.dec (fun h => ?_) (fun h => ?_) | refine CondVC.ndec (fun h => ?_) (fun h => ?_) | refine CondVC.mk (fun h => ?_) (fun h => ?_) | refine ArVC.i64 (by first | omega | (simp only; omega)) ?_ | refine SideVC.mk (by first | omega | decide | (simp only; omega) | (simp [slS]; done) | (simp [slS]; omega) | (simp only [byteE_len, mvE_len, strE_len, intE_len, esC_len, List.length_cons, List.length_nil, List.length_append, List.length_replicate, List.length_set, Int.toNat_natCast, and_true] at *; omega)) ?_ | refine LoopN.go ?_ | exact trivial | refine AltVC.mk ?_ ?_ | refine HeldVC.mk rfl ?_ | refine LoadVC.mk _ g0 ?_ | refine SideVC.mk (by simp only [hil]; omega) ?_ | refine OpVC.more tt_ok ?_ | refine RestVC.ext tt_ok ?_)); all_goals (conv => whnf)
  all_goals try (exfalso; omega)
  refine LoopVC.mk (G := Nat × Int) (fun γ => ⟨[(4, .v (i64 γ.1)), (3, .v (i64 γ.2)), (0, .v (.c (.sl 1000)))], [(1000, .sl 3 1 (inE l))]⟩)
    (fun γ => γ.1 ≤ l.length ∧ γ.2 ∈ l ∧ ∀ j (hj : j < l.length), j < γ.1 → γ.2 ≤ l[j]) (fun γ => l.length - γ.1) (1, l[0]) ⟨h0, List.getElem_mem h0, fun j hj h => by
      have e : j = 0 := by simp only at h; omega
      subst e; exact Int.le_refl _⟩ (Sub.mk [] _ ⟨rfl, rfl, rfl, trivial⟩ rfl rfl) ?_
  rintro ⟨i, m⟩ ⟨hi, hm, hall⟩
  simp only at hi hm hall
  by_cases hlt : i < l.length
  · have gi : (inE l)[(i : Int).toNat]? = some [.int .i64 l[i]] := by rw [Int.toNat_natCast]; exact inE_get hlt
    have hnew : (if l[i] < m then l[i] else m) ∈ l ∧ ∀ j (hj : j < l.length), j < i + 1 → (if l[i] < m then l[i] else m) ≤ l[j] := by
      refine ⟨?_, fun j hj h => ?_⟩
      · split
        · exact List.getElem_mem hlt
        · exact hm
      · by_cases e : j = i
        · subst e; split <;> omega
        · have := hall j hj (by omega); split <;> omega
    generalize l[i] = x at *
    (repeat' ((conv => whnf); first | refine CondVC.t ?_ | refine CondVC.f ?_ | refine CondVC.dec (fun h => ?_) (fun h => ?_) | refine CondVC.ndec (fun h => ?_) (fun h => ?_) | refine CondVC.mk (fun h => ?_) (fun h => ?_) | refine ArVC.i64 (by first | omega | (simp only; omega)) ?_ | refine SideVC.mk (by first | omega | decide | (simp only; omega) | (simp [slS]; done) | (simp [slS]; omega) | (simp only [byteE_len, mvE_len, strE_len, intE_len, esC_len, List.length_cons, List.length_nil, List.length_append, List.length_replicate, List.length_set, Int.toNat_natCast, and_true] at *; omega)) ?_ | refine LoopN.go ?_ | exact trivial | refine AltVC.mk ?_ ?_ | refine HeldVC.mk rfl ?_ | refine LoadVC.mk _ gi ?_ | refine SideVC.mk (by simp only [hil]; omega) ?_ | refine OpVC.more tt_ok ?_ | refine RestVC.ext tt_ok ?_)); all_goals (conv => whnf)
    all_goals first
      | (exfalso; omega)
      | exact ⟨(i + 1, if x < m then x else m), ⟨by simp only; omega, hnew.1, hnew.2⟩, by simp only; omega, Sub.mk [] _ ⟨rfl, rfl, rfl, trivial⟩ rfl rfl⟩
  · (repeat' ((conv => whnf); first | refine CondVC.t ?_ | refine CondVC.f ?_ | refine CondVC.dec (fun h => ?_) (fun h => ?_) | refine CondVC.ndec (fun h => ?_) (fun h => ?_) | refine CondVC.mk (fun h => ?_) (fun h => ?_) | refine ArVC.i64 (by first | omega | (simp only; omega)) ?_ | refine SideVC.mk (by first | omega | decide | (simp only; omega) | (simp [slS]; done) | (simp [slS]; omega) | (simp only [byteE_len, mvE_len, strE_len, intE_len, esC_len, List.length_cons, List.length_nil, List.length_append, List.length_replicate, List.length_set, Int.toNat_natCast, and_true] at *; omega)) ?_ | refine LoopN.go ?_ | exact trivial | refine AltVC.mk ?_ ?_ | refine HeldVC.mk rfl ?_ | refine OpVC.more tt_ok ?_ | refine RestVC.ext tt_ok ?_)); all_goals (conv => whnf)
    all_goals first
      | (exfalso; simp only at *; omega)
      | exact RetVC.mk rfl ⟨m, ⟨hm, fun n hn => by
          obtain ⟨j, hj, rfl⟩ := List.getElem_of_mem hn
          exact hall j hj (by omega)⟩, rfl, rfl⟩

def allK (w : Tx) (ks : List Tx) : List (Tx × Int) := ks.map fun v => (v, dF w v)
theorem bE_kv (w : Tx) (ks : List Tx) : bE w ks = kvE (allK w ks) := by unfold bE kvE allK; rw [List.map_map]; rfl
theorem allK_len (w : Tx) (ks : List Tx) : (allK w ks).length = ks.length := by simp [allK]
def okEnds (w : Tx) (ns : List Int) : Prop := ns.length ≤ 4398046511104 ∧ ∀ n, n ∈ ns ↔ ∃ k : Nat, StopAt w k ∧ n = k
structure EndI (w : Tx) (all rem : List (Tx × Int)) (out : List Int) : Prop where
  sub : ∀ p ∈ rem, p ∈ all
  got : ∀ p ∈ all, p ∈ rem ∨ ((movesF p.1 both).length = 0 → p.2 ∈ out)
  from_ : ∀ n ∈ out, ∃ p ∈ all, (movesF p.1 both).length = 0 ∧ n = p.2
  few : out.length + rem.length ≤ all.length
theorem EndI.hit {w : Tx} {all l1 l2 : List (Tx × Int)} {p : Tx × Int} {out : List Int} (h : EndI w all (l1 ++ p :: l2) out) (hb : (movesF p.1 both).length = 0) : EndI w all (l1 ++ l2) (out ++ [p.2]) := by
  refine ⟨fun q hq => h.sub q (by simp at hq ⊢; rcases hq with hq | hq <;> simp [hq]), fun q hq => ?_, fun n hn => ?_, ?_⟩
  · rcases h.got q hq with hr | hr
    · simp only [List.mem_append, List.mem_cons] at hr
      rcases hr with hr | rfl | hr
      · exact .inl (by simp [hr])
      · exact .inr fun _ => by simp
      · exact .inl (by simp [hr])
    · exact .inr fun hz => by simp [hr hz]
  · rcases List.mem_append.1 hn with hn | hn
    · exact h.from_ n hn
    · simp only [List.mem_singleton] at hn
      exact ⟨p, h.sub p (by simp), hb, hn⟩
  · have := h.few
    simp only [List.length_append, List.length_cons, List.length_nil] at this ⊢
    omega
theorem EndI.miss {w : Tx} {all l1 l2 : List (Tx × Int)} {p : Tx × Int} {out : List Int} (h : EndI w all (l1 ++ p :: l2) out) (hb : (movesF p.1 both).length ≠ 0) : EndI w all (l1 ++ l2) out := by
  refine ⟨fun q hq => h.sub q (by simp at hq ⊢; rcases hq with hq | hq <;> simp [hq]), fun q hq => ?_, h.from_, ?_⟩
  · rcases h.got q hq with hr | hr
    · simp only [List.mem_append, List.mem_cons] at hr
      rcases hr with hr | rfl | hr
      · exact .inl (by simp [hr])
      · exact .inr fun hz => absurd hz hb
      · exact .inl (by simp [hr])
    · exact .inr hr
  · have := h.few
    simp only [List.length_append, List.length_cons] at this ⊢
    omega
theorem EndI.all {w : Tx} {ks : List Tx} {out : List Int} (hf : ks.length ≤ 4398046511104) (hks : okKs w ks) (h : EndI w (allK w ks) [] out) : okEnds w out := by
  refine ⟨by have := h.few; rw [allK_len] at this; simp at this; omega, fun n => ⟨fun hn => ?_, ?_⟩⟩
  · obtain ⟨p, hp, hz, rfl⟩ := h.from_ n hn
    obtain ⟨v, hv, rfl⟩ := List.mem_map.1 hp
    obtain ⟨k, hk⟩ := (hks.2 v).1 hv
    exact ⟨k, ⟨v, lay_mem.2 hk, hz⟩, dF_reach hk⟩
  · rintro ⟨k, ⟨v, hv, hz⟩, rfl⟩
    have hk := lay_mem.1 hv
    have hm : (v, dF w v) ∈ allK w ks := List.mem_map.2 ⟨v, (hks.2 v).2 ⟨k, hk⟩, rfl⟩
    rcases h.got _ hm with hr | hr
    · cases hr
    · have := hr hz
      rwa [show (v, dF w v).2 = (k : Int) from dF_reach hk] at this
theorem implEnds_spec (w : Tx) (hok : w.all okCh = true) (hw : w.length ≤ 10) : Spec Tryd.prog 51 [.c (.str w)] []
    (exRes (okEnds w) (fun _ => [.c (.sl 1001)]) (fun ns => [(1001, .sl 3 1 (inE ns))])) := by
  have hr := Spec.renE [(1000, 2000)] [(2000, 1000)] (reached_spec w hok (by omega)) (fun _ => rfl) (fun _ => rfl) rfl
  simp only [bE_kv] at hr
  refine Spec.of_wpx tt_ok Tryd.func51 (by kernel_rfl) rfl ?_
  (repeat' ((conv => whnf); first | refine CondVC.t ?_ | refine CondVC.f ?_ | refine CondVC.dec (fun h => ?_) (fun h => ?_) | refine CondVC.ndec (fun h => ?_) (fun h => ?_) | refine CondVC.mk (fun h => ?_) (fun h => ?_) | refine ArVC.i64 (by first | omega | (simp only; omega)) ?_ | refine SideVC.mk (by first | omega | decide | (simp only; omega) | (simp [slS]; done) | (simp [slS]; omega) | (simp only [byteE_len, mvE_len, strE_len, intE_len, esC_len, List.length_cons, List.length_nil, List.length_append, List.length_replicate, List.length_set, Int.toNat_natCast, and_true] at *; omega)) ?_ | refine LoopN.go ?_ | exact trivial | refine AltVC.mk ?_ ?_ | refine HeldVC.mk rfl ?_ | (refine CallVC.ex [] rfl hr ?_; intro ks hks; refine ⟨rfl, ?_⟩) | refine RestVC2.rangeMap (l := allK w ks) tt_ok rfl rfl rfl rfl rfl rfl rfl ?_ | refine OpVC.more tt_ok ?_ | refine RestVC.ext tt_ok ?_)); all_goals (conv => whnf)
  have hkf : ks.length ≤ 4398046511104 := few_keys hks.1 fun s hs => by
    obtain ⟨k, hk⟩ := (hks.2 s).1 hs
    obtain ⟨h1, h2, _⟩ := reach_ok hok hk
    exact ⟨by omega, fun c hc => okCh_okK (List.all_eq_true.1 h1 c hc)⟩
  have hal := allK_len w ks
  have hbl : ∀ p ∈ allK w ks, List.length p.1 ≤ 1000000 := fun p hp => by
    obtain ⟨v, hv, rfl⟩ := List.mem_map.1 hp
    obtain ⟨k, hk⟩ := (hks.2 v).1 hv
    obtain ⟨_, h2, _⟩ := reach_ok hok hk
    show List.length v ≤ _
    omega
  have hend : ∀ out, EndI w (allK w ks) [] out → okEnds w out := fun out h => EndI.all hkf hks h
  generalize allK w ks = all at *
  refine LoopVC.mk (G := List (Tx × Int) × Option (Tx × Int) × List Int) (fun γ => ⟨[(9, .v (.c (.ptr 9 0))), (3, .v (.c (.sl 3001)))], [(9, itR γ.1 γ.2.1), (3001, .sl 3 1 (inE γ.2.2))]⟩)
    (fun γ => EndI w all γ.1 γ.2.2) (fun γ => γ.1.length) (all, none, []) ⟨fun p hp => hp, fun p hp => .inl hp, fun n hn => (by cases hn), (by simp)⟩ (Sub.mk [(3001, 6)] _ ⟨rfl, rfl, trivial⟩ rfl rfl) ?_
  rintro ⟨rem, last, out⟩ hI
  simp only at hI
  have hfew := hI.few
  have hol := inE_len out
  (repeat' ((conv => whnf); first | refine CondVC.t ?_ | refine CondVC.f ?_ | refine CondVC.dec (fun h => ?_) (fun h => ?_) | refine CondVC.ndec (fun h => ?_) (fun h => ?_) | refine CondVC.mk (fun h => ?_) (fun h => ?_) | refine ArVC.i64 (by first | omega | (simp only; omega)) ?_ | refine SideVC.mk (by first | omega | decide | (simp only; omega) | (simp [slS]; done) | (simp [slS]; omega) | (simp only [byteE_len, mvE_len, strE_len, intE_len, esC_len, List.length_cons, List.length_nil, List.length_append, List.length_replicate, List.length_set, Int.toNat_natCast, and_true] at *; omega)) ?_ | refine LoopN.go ?_ | exact trivial | refine AltVC.mk ?_ ?_ | refine HeldVC.mk rfl ?_ | (refine RestVC2.nextMap (rem := rem) (last := last) rfl rfl rfl (fun h0 => ?_) (fun l1 p l2 hrem => ?_)) | refine RestVC2.entryMap rfl rfl rfl ?_ | refine CallVC.pure (isBlockedR_spec p.1 (hbl p (hI.sub p (by rw [hrem]; simp)))) rfl ?_ | refine SideVC.mk (by simp only [hol, List.length_cons, List.length_nil]; omega) ?_ | refine OpVC.more tt_ok ?_ | refine RestVC.ext tt_ok ?_)); all_goals (conv => whnf)
  all_goals first
    | (subst h0; exact RetVC.ren [(1001, 3001)] [.c (.sl 1001)] [(1001, .sl 3 1 (inE out))] rfl rfl rfl ⟨out, hend out hI, rfl, rfl⟩)
    | (subst hrem; exact ⟨(l1 ++ l2, some p, out ++ [p.2]), hI.hit (by omega), by simp only [List.length_append, List.length_cons]; omega, Sub.mk [(3001, 20)] _ ⟨rfl, rfl, trivial⟩ (by simp only [← inE_app]; rfl) rfl⟩)
    | (subst hrem; exact ⟨(l1 ++ l2, some p, out), hI.miss (by omega), by simp only [List.length_append, List.length_cons]; omega, Sub.mk [] _ ⟨rfl, rfl, trivial⟩ rfl rfl⟩)
theorem ends_ne {w : Tx} {ns : List Int} (h : okEnds w ns) : 0 < ns.length := by
  have := (h.2 (depthF w)).2 ⟨_, stop_last w, rfl⟩
  exact List.length_pos_of_mem this
theorem ends_max {w : Tx} {ns : List Int} {r : Int} (h : okEnds w ns) (hr : isMax ns r) : r = (depthF w : Nat) := by
  have h1 := hr.2 _ ((h.2 (depthF w)).2 ⟨_, stop_last w, rfl⟩)
  obtain ⟨k, hk, e⟩ := (h.2 r).1 hr.1
  have := stop_depth hk
  omega
theorem ends_min {w : Tx} {ns : List Int} {r : Int} (h : okEnds w ns) (hr : isMin ns r) : r = (stopF w : Nat) := by
  obtain ⟨s1, s2⟩ := stopF_at w
  have h1 := hr.2 _ ((h.2 (stopF w)).2 ⟨_, s1, rfl⟩)
  obtain ⟨k, hk, e⟩ := (h.2 r).1 hr.1
  have : ¬ k < stopF w := fun hlt => s2 k hlt hk
  omega
def longF (w : Tx) : Int := if lineOf w 10 then (depthF w : Nat) else 0
noncomputable def shortF (w : Tx) : Int := if lineOf w 10 then (stopF w : Nat) else 0
theorem implLongestPlay_spec (w : Tx) (hw : w.length ≤ 1048576) : Spec Tryd.prog 23 [.c (.str w)] [] (isRes [i64 (longF w), vb (lineOf w 10)] []) := by
  have h1 := isReachLine_spec w hw
  unfold longF
  refine Spec.of_wpx tt_ok Tryd.func23 (by kernel_rfl) rfl ?_
  cases ha : lineOf w 10 with
  | false =>
    rw [ha] at h1
    (repeat' ((conv => whnf); first | refine CondVC.t ?_ | refine CondVC.f ?_ | refine CondVC.dec (fun h => ?_) (fun h => ?_) | refine CondVC.ndec (fun h => ?_) (fun h => ?_) | refine CondVC.mk (fun h => ?_) (fun h => ?_) | refine ArVC.i64 (by first | omega | (simp only; omega)) ?_ | refine SideVC.mk (by first | omega | decide | (simp only; omega) | (simp [slS]; done) | (simp [slS]; omega) | (simp only [byteE_len, mvE_len, strE_len, intE_len, esC_len, List.length_cons, List.length_nil, List.length_append, List.length_replicate, List.length_set, Int.toNat_natCast, and_true] at *; omega)) ?_ | refine LoopN.go ?_ | exact trivial | refine AltVC.mk ?_ ?_ | refine HeldVC.mk rfl ?_ | refine CallVC.pure h1 rfl ?_ | refine OpVC.more tt_ok ?_ | refine RestVC.ext tt_ok ?_)); all_goals (conv => whnf)
    all_goals exact RetVC.res rfl rfl
  | true =>
    rw [ha] at h1
    have h2 := Spec.renE [(1001, 2001)] [(2001, 1001)] (implEnds_spec w (few_ok ha).1 (few_ok ha).2) (fun _ => rfl) (fun _ => rfl) rfl
    have h3 := fun ns (h : okEnds w ns) => Spec.renE [(1000, 2001)] [(2001, 1000)] (slMax_spec ns (ends_ne h) h.1) (fun _ => rfl) (fun _ => rfl) rfl
    have h4 := fun ns r (h : okEnds w ns) => ends_max (r := r) h
    generalize depthF w = q at *
    (repeat' ((conv => whnf); first | refine CondVC.t ?_ | refine CondVC.f ?_ | refine CondVC.dec (fun h => ?_) (fun h => ?_) | refine CondVC.ndec (fun h => ?_) (fun h => ?_) | refine CondVC.mk (fun h => ?_) (fun h => ?_) | refine ArVC.i64 (by first | omega | (simp only; omega)) ?_ | refine SideVC.mk (by first | omega | decide | (simp only; omega) | (simp [slS]; done) | (simp [slS]; omega) | (simp only [byteE_len, mvE_len, strE_len, intE_len, esC_len, List.length_cons, List.length_nil, List.length_append, List.length_replicate, List.length_set, Int.toNat_natCast, and_true] at *; omega)) ?_ | refine LoopN.go ?_ | exact trivial | refine AltVC.mk ?_ ?_ | refine HeldVC.mk rfl ?_ | refine CallVC.pure h1 rfl ?_ | (refine CallVC.ex [] rfl h2 ?_; intro ns hns; refine ⟨rfl, ?_⟩; have h3 := h3 ns hns) | (refine CallVC.ex [2001] rfl h3 ?_; intro r hr; refine ⟨rfl, ?_⟩; obtain rfl := h4 ns r hns hr) | refine OpVC.more tt_ok ?_ | refine RestVC.ext tt_ok ?_)); all_goals (conv => whnf)
    all_goals exact RetVC.res rfl rfl
theorem implShortestStop_spec (w : Tx) (hw : w.length ≤ 1048576) : Spec Tryd.prog 25 [.c (.str w)] [] (isRes [i64 (shortF w), vb (lineOf w 10)] []) := by
  have h1 := isReachLine_spec w hw
  unfold shortF
  refine Spec.of_wpx tt_ok Tryd.func25 (by kernel_rfl) rfl ?_
  cases ha : lineOf w 10 with
  | false =>
    rw [ha] at h1
    (repeat' ((conv => whnf); first | refine CondVC.t ?_ | refine CondVC.f ?_ | refine CondVC.dec (fun h => ?_) (fun h => ?_) | refine CondVC.ndec (fun h => ?_) (fun h => ?_) | refine CondVC.mk (fun h => ?_) (fun h => ?_) | refine ArVC.i64 (by first | omega | (simp only; omega)) ?_ | refine SideVC.mk (by first | omega | decide | (simp only; omega) | (simp [slS]; done) | (simp [slS]; omega) | (simp only [byteE_len, mvE_len, strE_len, intE_len, esC_len, List.length_cons, List.length_nil, List.length_append, List.length_replicate, List.length_set, Int.toNat_natCast, and_true] at *; omega)) ?_ | refine LoopN.go ?_ | exact trivial | refine AltVC.mk ?_ ?_ | refine HeldVC.mk rfl ?_ | refine CallVC.pure h1 rfl ?_ | refine OpVC.more tt_ok ?_ | refine RestVC.ext tt_ok ?_)); all_goals (conv => whnf)
    all_goals exact RetVC.res rfl rfl
  | true =>
    rw [ha] at h1
    have h2 := Spec.renE [(1001, 2001)] [(2001, 1001)] (implEnds_spec w (few_ok ha).1 (few_ok ha).2) (fun _ => rfl) (fun _ => rfl) rfl
    have h3 := fun ns (h : okEnds w ns) => Spec.renE [(1000, 2001)] [(2001, 1000)] (slMin_spec ns (ends_ne h) h.1) (fun _ => rfl) (fun _ => rfl) rfl
    have h4 := fun ns r (h : okEnds w ns) => ends_min (r := r) h
    generalize stopF w = q at *
    (repeat' ((conv => whnf); first | refine CondVC.t ?_ | refine CondVC.f ?_ | refine CondVC.dec (fun h => ?_) (fun h => ?_) | refine CondVC.ndec (fun h => ?_) (fun h => ?_) | refine CondVC.mk (fun h => ?_) (fun h => ?_) | refine ArVC.i64 (by first | omega | (simp only; omega)) ?_ | refine SideVC.mk (by first | omega | decide | (simp only; omega) | (simp [slS]; done) | (simp [slS]; omega) | (simp only [byteE_len, mvE_len, strE_len, intE_len, esC_len, List.length_cons, List.length_nil, List.length_append, List.length_replicate, List.length_set, Int.toNat_natCast, and_true] at *; omega)) ?_ | refine LoopN.go ?_ | exact trivial | refine AltVC.mk ?_ ?_ | refine HeldVC.mk rfl ?_ | refine CallVC.pure h1 rfl ?_ | (refine CallVC.ex [] rfl h2 ?_; intro ns hns; refine ⟨rfl, ?_⟩; have h3 := h3 ns hns) | (refine CallVC.ex [2001] rfl h3 ?_; intro r hr; refine ⟨rfl, ?_⟩; obtain rfl := h4 ns r hns hr) | refine OpVC.more tt_ok ?_ | refine RestVC.ext tt_ok ?_)); all_goals (conv => whnf)
    all_goals exact RetVC.res rfl rfl

/-! ### The reference's -/
theorem specLongestPlay_spec (w : Tx) (hw : w.length ≤ 1048576) : Spec Tryd.prog 22 [.c (.str w)] [] (isRes [i64 (longF w), vb (lineOf w 10)] []) := by
  have h1 := reFew_spec w hw
  unfold longF
  refine Spec.of_wpx tt_ok Tryd.func22 (by kernel_rfl) rfl ?_
  cases ha : lineOf w 10 with
  | false =>
    rw [ha] at h1
    (repeat' ((conv => whnf); first | refine CondVC.t ?_ | refine CondVC.f ?_ | refine CondVC.dec (fun h => ?_) (fun h => ?_) | refine CondVC.ndec (fun h => ?_) (fun h => ?_) | refine CondVC.mk (fun h => ?_) (fun h => ?_) | refine ArVC.i64 (by first | omega | (simp only; omega)) ?_ | refine SideVC.mk (by first | omega | decide | (simp only; omega) | (simp [slS]; done) | (simp [slS]; omega) | (simp only [byteE_len, mvE_len, strE_len, intE_len, esC_len, List.length_cons, List.length_nil, List.length_append, List.length_replicate, List.length_set, Int.toNat_natCast, and_true] at *; omega)) ?_ | refine LoopN.go ?_ | exact trivial | refine AltVC.mk ?_ ?_ | refine HeldVC.mk rfl ?_ | refine CallVC.pure h1 rfl ?_ | refine OpVC.more tt_ok ?_ | refine RestVC.ext tt_ok ?_)); all_goals (conv => whnf)
    all_goals exact RetVC.res rfl rfl
  | true =>
    rw [ha] at h1
    have h2 := Spec.ren [(1001, 2001)] [(2001, 1001)] (reLayers_spec w (few_ok ha).1 (by have := (few_ok ha).2; omega)) rfl rfl rfl
    have hel : (nestF w).length = depthF w + 1 := nestTo_len w _
    have e : ((nestF w).length : Int) - 1 = (depthF w : Nat) := by omega
    have hD := depth_pot w
    have hpp := pot_small (w := w) (by have := (few_ok ha).2; omega)
    generalize nestF w = ne at *
    generalize depthF w = D at *
    (repeat' ((conv => whnf); first | refine CondVC.t ?_ | refine CondVC.f ?_ | refine CondVC.dec (fun h => ?_) (fun h => ?_) | refine CondVC.ndec (fun h => ?_) (fun h => ?_) | refine CondVC.mk (fun h => ?_) (fun h => ?_) | refine ArVC.i64 (by first | omega | (simp only; omega)) ?_ | refine SideVC.mk (by first | omega | decide | (simp only; omega) | (simp [slS]; done) | (simp [slS]; omega) | (simp only [byteE_len, mvE_len, strE_len, intE_len, esC_len, List.length_cons, List.length_nil, List.length_append, List.length_replicate, List.length_set, Int.toNat_natCast, and_true] at *; omega)) ?_ | refine LoopN.go ?_ | exact trivial | refine AltVC.mk ?_ ?_ | refine HeldVC.mk rfl ?_ | refine CallVC.pure h1 rfl ?_ | refine CallVC.res [] rfl h2 rfl ?_ | refine OpVC.more tt_ok ?_ | refine RestVC.ext tt_ok ?_)); all_goals (conv => whnf)
    all_goals exact RetVC.res (by rw [← e]; rfl) rfl
theorem lawLongestPlay_spec (w : Tx) (hw : w.length ≤ 9223372036854775807) : Spec Tryd.prog 7 [.c (.str w)] [] (isRes [vb true] []) := by
  refine Spec.of_wpx tt_ok Tryd.func7 (by kernel_rfl) rfl ?_
  (repeat' ((conv => whnf); first | refine CondVC.t ?_ | refine CondVC.f ?_ | refine CondVC.dec (fun h => ?_) (fun h => ?_) | refine CondVC.ndec (fun h => ?_) (fun h => ?_) | refine CondVC.mk (fun h => ?_) (fun h => ?_) | refine ArVC.i64 (by first | omega | (simp only; omega)) ?_ | refine SideVC.mk (by first | omega | decide | (simp only; omega) | (simp [slS]; done) | (simp [slS]; omega) | (simp only [byteE_len, mvE_len, strE_len, intE_len, esC_len, List.length_cons, List.length_nil, List.length_append, List.length_replicate, List.length_set, Int.toNat_natCast, and_true] at *; omega)) ?_ | refine LoopN.go ?_ | exact trivial | refine AltVC.mk ?_ ?_ | refine HeldVC.mk rfl ?_ | refine CallVC.pure (specLongestPlay_spec w (by omega)) rfl ?_ | refine CallVC.pure (implLongestPlay_spec w (by omega)) rfl ?_ | refine OpVC.more tt_ok ?_ | refine RestVC.ext tt_ok ?_)); all_goals (conv => whnf)
  all_goals first | exact RetVC.res rfl rfl | (exfalso; simp_all; done)
end Go.Proofs.YtnekgpjgekakkaaDoor.X
