/- How many lines are live: the program's and the reference's. No condition beyond the statement's. -/
import Derived.Test.YtblihaicbhdbdaaIsLive
import Derived.Test.YtblihaicbhdbdaaLiveQ
import Derived.Test.YtblihaicbhdbdaaQueue
import Derived.Test.YtblihaicbhdbdaaSwap
import Derived.Test.YtblihaicbhdbdaaReach
namespace Go.Proofs.Ytblihaicbhdbdaa.X
open Go.Proofs
set_option maxRecDepth 100000
set_option linter.unusedVariables false
set_option linter.unusedSimpArgs false

/-- How many lines are live: those of all layers, none where there is no exchange. -/
def okCl (f : Tx) (n : Nat) : Prop := (0 < wp (lastF f) f → layL f n = []) ∧ (¬ 0 < wp (lastF f) f → n = 0)
theorem specCountLive_yes (a b c : Nat) (h : 1 ≤ a + b + c ∧ a + b + c ≤ 8) : Spec Try.prog 8 [i64 a, i64 b, i64 c] []
    (exRes (okCl (firstF a b c)) (fun n => [i64 (sumL (firstF a b c) n : Nat), vb true]) (fun _ => [])) := by
  have h1 := swNumbers_spec a b c
  have e : numsF a b c 8 = true := by unfold numsF; rw [decide_eq_true_eq]; omega
  rw [e] at h1
  have h2 := swLive_spec a b c h.2 ([], []) okEn_nil
  have hl := firstF_len a b c
  have hok := firstF_ok a b c
  have hpp := pot_small (w := firstF a b c) (by omega)
  have hfl := fun k => layL_few hok (by omega : (firstF a b c).length ≤ 14) k
  have hsm := sumL_succ (firstF a b c)
  have hs0 : sumL (firstF a b c) 0 = 0 := rfl
  have hcl : ∀ γ, okLv (firstF a b c) γ → okCl (firstF a b c) γ.1 := fun γ h => ⟨fun hq => (h.1.1 hq).2, h.1.2⟩
  have hget : ∀ n k, k < n → (nestL (firstF a b c) n)[k]? = some (strE (layL (firstF a b c) k)) := fun n k h => nestL_get h
  have hnl := nestL_len (firstF a b c)
  have hpb : ∀ γ, okLv (firstF a b c) γ → γ.1 ≤ 100000 := fun γ h => by
    by_cases hq : 0 < wp (lastF (firstF a b c)) (firstF a b c)
    · obtain ⟨p, q⟩ := h.1.1 hq
      apply Classical.byContradiction
      intro hc
      exact p (γ.1 - 1) (by omega) (layL_none (by omega))
    · have h0 : γ.1 = 0 := h.1.2 hq
      omega
  have hsb : ∀ n, n ≤ 100000 → sumL (firstF a b c) n ≤ n * 4398046511104 := fun n _ => by
    induction n with
    | zero => exact Nat.le_refl _
    | succ n ih => have := ih (by omega); have := hfl n; rw [hsm]; omega
  generalize firstF a b c = f at *
  unfold enM at h2
  have h2 := Spec.renE [(1000, 17), (1001, 2001), (1002, 2002), (1011, 2011), (1012, 2012)] [(17, 1000), (2001, 1001), (2002, 1002), (2011, 1011), (2012, 1012)] h2 (fun _ => rfl) (fun _ => rfl) rfl
  generalize okLv f = P at *
  generalize okCl f = P2 at *
  generalize layL f = ly at *
  generalize nestL f = nf at *
  generalize sumL f = sm at *
  refine Spec.of_wpx tt_ok Try.func8 (by kernel_rfl) rfl ?_
  (repeat' ((conv => whnf); first | refine CondVC.t ?_ | refine CondVC.f ?_ | refine CondVC.dec (fun h => ?_) (fun h => ?_) | refine CondVC.ndec (fun h => ?_) (fun h => ?_) | refine CondVC.mk (fun h => ?_) (fun h => ?_) | refine ArVC.i64 (by first | omega | (simp only; omega)) ?_ | refine SideVC.mk (by first | omega | decide | (simp only; omega) | (simp [slS]; done) | (simp [slS]; omega) | (simp only [byteE_len, mvE_len, strE_len, intE_len, esC_len, List.length_cons, List.length_nil, List.length_append, List.length_replicate, List.length_set, Int.toNat_natCast, and_true] at *; omega)) ?_ | refine LoopN.go ?_ | exact trivial | refine AltVC.mk ?_ ?_ | refine HeldVC.mk rfl ?_ | refine CallVC.pure h1 rfl ?_ | (refine CallVC.nil 2001 9 1 [.c (.ptr 17 0), i64 a, i64 b, i64 c] [(17, .box 48 [.sl 2001, .val (.slice none 0 0)])] rfl rfl rfl ?_; refine CallVC.nil 2002 3 1 [.c (.ptr 17 0), i64 a, i64 b, i64 c] [(2001, .sl 9 1 []), (17, .box 48 [.sl 2001, .sl 2002])] rfl rfl rfl ?_; refine CallVC.ex [17, 2001, 2002] rfl h2 ?_; intro γ hγ; refine ⟨rfl, ?_⟩) | refine OpVC.more tt_ok ?_ | refine RestVC.ext tt_ok ?_)); all_goals (conv => whnf)
  obtain ⟨n, x⟩ := γ
  have hcl := hcl _ hγ
  have hpb := hpb _ hγ
  have hget := hget n
  have hnl := hnl n
  simp only at hcl hpb
  generalize nf n = ne at *
  refine LoopVC.mk (G := Nat) (fun k => ⟨[(23, .v (i64 k)), (22, .v (i64 ne.length)), (21, .v (.c (.sl 1021))), (8, .v (i64 (sm k : Nat)))], [(1021, .ext (.nest 46 9 1 ne []))]⟩)
    (fun k => k ≤ n) (fun k => n - k) 0 (Nat.zero_le _) (Sub.mk [] _ ⟨rfl, rfl, rfl, by rw [hs0]; rfl, trivial⟩ rfl rfl) ?_
  intro k hk
  have hb := hsb k (by omega)
  by_cases hkl : k < n
  · have g0 : ne[(k : Int).toNat]? = some (strE (ly k)) := by rw [Int.toNat_natCast]; exact hget k hkl
    have hs := hsm k
    have hf := hfl k
    have hsl := strE_len (ly k)
    (repeat' ((conv => whnf); first | refine CondVC.t ?_ | refine CondVC.f ?_ | refine CondVC.dec (fun h => ?_) (fun h => ?_) | refine CondVC.ndec (fun h => ?_) (fun h => ?_) | refine CondVC.mk (fun h => ?_) (fun h => ?_) | refine ArVC.i64 (by first | omega | (simp only; omega)) ?_ | refine SideVC.mk (by first | omega | decide | (simp only; omega) | (simp [slS]; done) | (simp [slS]; omega) | (simp only [byteE_len, mvE_len, strE_len, intE_len, esC_len, List.length_cons, List.length_nil, List.length_append, List.length_replicate, List.length_set, Int.toNat_natCast, and_true] at *; omega)) ?_ | refine LoopN.go ?_ | exact trivial | refine AltVC.mk ?_ ?_ | refine HeldVC.mk rfl ?_ | refine RestVC2.nestAddr tt_ok rfl rfl rfl rfl rfl (by rw [hnl]; omega) ?_ | refine RestVC2.nestLoad tt_ok rfl rfl rfl rfl (by rw [hnl]; omega) ?_ | refine RestVC2.insLen tt_ok rfl rfl rfl rfl g0 ?_ | refine OpVC.more tt_ok ?_ | refine RestVC.ext tt_ok ?_)); all_goals (conv => whnf)
    all_goals first
      | (exfalso; omega)
      | exact ⟨k + 1, by omega, by omega, Sub.mk [] _ ⟨rfl, rfl, rfl, congrArg (fun z => some (E.v (i64 z))) (show (sm k : Int) + ((strE (ly k)).length : Int) = ((sm (k + 1) : Nat) : Int) by rw [hsl, hs]; omega), trivial⟩ rfl rfl⟩
  · have e : k = n := by omega
    subst e
    (repeat' ((conv => whnf); first | refine CondVC.t ?_ | refine CondVC.f ?_ | refine CondVC.dec (fun h => ?_) (fun h => ?_) | refine CondVC.ndec (fun h => ?_) (fun h => ?_) | refine CondVC.mk (fun h => ?_) (fun h => ?_) | refine ArVC.i64 (by first | omega | (simp only; omega)) ?_ | refine SideVC.mk (by first | omega | decide | (simp only; omega) | (simp [slS]; done) | (simp [slS]; omega) | (simp only [byteE_len, mvE_len, strE_len, intE_len, esC_len, List.length_cons, List.length_nil, List.length_append, List.length_replicate, List.length_set, Int.toNat_natCast, and_true] at *; omega)) ?_ | refine LoopN.go ?_ | exact trivial | refine AltVC.mk ?_ ?_ | refine HeldVC.mk rfl ?_ | refine OpVC.more tt_ok ?_ | refine RestVC.ext tt_ok ?_)); all_goals (conv => whnf)
    all_goals first
      | (exfalso; omega)
      | exact RetVC.mk rfl ⟨k, hcl, rfl, rfl⟩

/-! ### The program's -/
theorem bfsL_few {w : Tx} (hok : w.all okCh = true) (hw : w.length ≤ 14) {ks Q : List Tx} (h : BfsL w ks Q) : ks.length ≤ 4398046511104 :=
  few_keys h.nodup fun s hs => by
    obtain ⟨k, hk⟩ := h.found s hs
    obtain ⟨h1, h2, _⟩ := reach_ok hok (layL_reach hk)
    exact ⟨by omega, fun c hc => okCh_okK (List.all_eq_true.1 h1 c hc)⟩
theorem bfsL_ok {w : Tx} (hok : w.all okCh = true) {ks Q : List Tx} (h : BfsL w ks Q) {v : Tx} (hv : v ∈ ks) : v.all okCh = true ∧ v.length = w.length ∧ lastF v = lastF w ∧ ∃ k, Reach w v k := by
  obtain ⟨k, hk⟩ := h.found v hv
  obtain ⟨h1, h2, h3⟩ := reach_ok hok (layL_reach hk)
  exact ⟨h1, h2, h3, k, layL_reach hk⟩
/-- What the program's live lines are: all of them, or none where there is no exchange. -/
def okLl (f : Tx) (ks : List Tx) : Prop := (0 < wp (lastF f) f → BfsL f ks []) ∧ (¬ 0 < wp (lastF f) f → ks = [])
/-- The region's orders: what is called is called when the rest is known. -/
def trL9 : Tr := .take 0 (.take 1 (.take 6 (.alt 2 (.alt 3 (.alt 4 (.alt 5 .done .no) .no) .no) .no)))
theorem liveLines_spec (a b c : Nat) (h : 1 ≤ a + b + c ∧ a + b + c ≤ 8) : Spec Try.prog 30 [i64 a, i64 b, i64 c] []
    (exRes (okLl (firstF a b c)) (fun _ => [.c (.mp 1001)]) (fun ks => [(1001, .ext (.mp none (bE (firstF a b c) ks)))])) := by
  have h2 := Spec.renE [(1000, 2000)] [(2000, 1000)] (swapOf_spec a b c h) (fun _ => rfl) (fun _ => rfl) rfl
  have hl := firstF_len a b c
  have hok := firstF_ok a b c
  generalize firstF a b c = f at *
  have hf8 : f.length ≤ 8 := by omega
  have hb0 : bE f [] = [] := rfl
  by_cases hp : 0 < wp (lastF f) f
  · have hlt : liveT f = true := by unfold liveT; rw [decide_eq_true hp]
    have hall : ∀ ks, BfsL f ks [] → okLl f ks := fun ks hB => ⟨fun _ => hB, fun hn => absurd hp hn⟩
    have h00 : setM [] (C.str f) (i64 0) = bE f [f] := by unfold bE; rw [List.map_cons, dF_self]; rfl
    rw [decide_eq_true hp] at h2
    have hinf : ∀ {ks Q : List Tx}, BfsL f ks Q → ∀ v, v ∈ ks → v.all okCh = true ∧ v.length = f.length ∧ lastF v = lastF f ∧ ∃ k, Reach f v k := fun hB v hv => bfsL_ok hok hB hv
    generalize hgl : lastF f = g at *
    refine Spec.of_wpx tt_ok Try.func30 (by kernel_rfl) rfl ?_
    (repeat' ((conv => whnf); first | refine CondVC.t ?_ | refine CondVC.f ?_ | refine CondVC.dec (fun h => ?_) (fun h => ?_) | refine CondVC.ndec (fun h => ?_) (fun h => ?_) | refine CondVC.mk (fun h => ?_) (fun h => ?_) | refine ArVC.i64 (by first | omega | (simp only; omega)) ?_ | refine SideVC.mk (by first | omega | decide | (simp only; omega) | (simp [slS]; done) | (simp [slS]; omega) | (simp only [byteE_len, mvE_len, strE_len, intE_len, esC_len, List.length_cons, List.length_nil, List.length_append, List.length_replicate, List.length_set, Int.toNat_natCast, and_true] at *; omega)) ?_ | refine LoopN.go ?_ | exact trivial | refine AltVC.mk ?_ ?_ | refine HeldVC.mk rfl ?_ | (refine CallVC.ex [] rfl h2 ?_; intro es1 hes1; refine ⟨rfl, ?_⟩) | refine OpVC.more tt_ok ?_ | refine RestVC.ext tt_ok ?_)); all_goals (conv => whnf)
    refine LoopVC.mk (G := List Tx × List Tx × Nat × List (List C) × List (C × V)) (fun γ => ⟨[(11, .v (.c (.sub 3001 γ.2.2.1 1 (γ.2.2.2.1.length - γ.2.2.1)))), (10, .v (.c (.mp 25))), (8, .v (.c (.ptr 8 0)))], [(3001, .sl 9 1 γ.2.2.2.1), (25, .ext (.mp none (bE f γ.1))), (8, .box 60 [.str g, .mp 2000]), (2000, .ext (.mp none γ.2.2.2.2))]⟩)
      (fun γ => BfsL f γ.1 γ.2.1 ∧ γ.2.2.1 ≤ γ.2.2.2.1.length ∧ γ.2.2.2.1.drop γ.2.2.1 = strE γ.2.1 ∧ γ.2.2.2.1.length ≤ γ.1.length ∧ okWays g γ.2.2.2.2) (fun γ => 2 * (4398046511104 - γ.1.length) + γ.2.1.length) ([f], [f], 0, [[.str f]], es1)
      ⟨bfsL_start f, Nat.zero_le _, rfl, Nat.le_refl _, hes1⟩
      (Sub.trans (t := ⟨[(11, .v (.c (.sub 32 0 1 1))), (10, .v (.c (.mp 25))), (8, .v (.c (.ptr 8 0)))], [(32, .sl 9 1 [[.str f]]), (25, .ext (.mp none (setM [] (C.str f) (i64 0)))), (8, .box 60 [.str g, .mp 2000]), (2000, .ext (.mp none es1))]⟩)
        (Sub.rest (T := 9) (sz := 1) (es := [[.str f]]) 32 rfl (by exact ⟨rfl, rfl, rfl, trivial⟩))
        (Sub.mk [(3001, 32)] [] ⟨rfl, rfl, rfl, trivial⟩ (by simp only [h00]; rfl) rfl)) ?_
    rintro ⟨ks, Q, lo, q, es⟩ ⟨hB, hlo, hq, hqk, hes⟩
    simp only at hB hlo hq hqk hes
    have hks := bfsL_few hok (by omega) hB
    have hql : q.length - lo = Q.length := by have := congrArg List.length hq; rw [List.length_drop, strE_len] at this; exact this
    cases Q with
    | nil =>
      simp only [List.length_nil] at hql
      have hall := hall ks hB
      (repeat' ((conv => whnf); first | refine CondVC.t ?_ | refine CondVC.f ?_ | refine CondVC.dec (fun h => ?_) (fun h => ?_) | refine CondVC.ndec (fun h => ?_) (fun h => ?_) | refine CondVC.mk (fun h => ?_) (fun h => ?_) | refine ArVC.i64 (by first | omega | (simp only; omega)) ?_ | refine SideVC.mk (by first | omega | decide | (simp only; omega) | (simp [slS]; done) | (simp [slS]; omega) | (simp only [byteE_len, mvE_len, strE_len, intE_len, esC_len, List.length_cons, List.length_nil, List.length_append, List.length_replicate, List.length_set, Int.toNat_natCast, and_true] at *; omega)) ?_ | refine LoopN.go ?_ | exact trivial | refine AltVC.mk ?_ ?_ | refine HeldVC.mk rfl ?_ | refine OpVC.more tt_ok ?_ | refine RestVC.ext tt_ok ?_)); all_goals (conv => whnf)
      all_goals first
        | (exfalso; simp only at *; omega)
        | exact RetVC.ren [(1001, 25)] [.c (.mp 1001)] [(1001, .ext (.mp none (bE f ks)))] rfl rfl rfl ⟨ks, hall, rfl, rfl⟩
    | cons v R =>
      simp only [List.length_cons] at hql
      have hvk := hB.sub v (by simp)
      obtain ⟨hvok, hvl, hvg, hvr⟩ := hinf hB v hvk
      have hg : ∀ (q' : List (List C)) (lo' : Nat) (R' : List Tx), q'.drop lo' = strE (v :: R') → q'[lo' + (0 : Int).toNat]? = some [.str v] := fun q' lo' R' h => by
        have : (q'.drop lo')[0]? = some [.str v] := by rw [h]; rfl
        rw [List.getElem?_drop] at this; exact this
      have g0 := hg q lo R hq
      have hlv := Spec.renE [(1000, 2000), (1011, 2011)] [(2000, 1000), (2011, 1011)] (live_spec g v (by omega) es hes) (fun _ => rfl) (fun _ => rfl) rfl
      have hif : ∀ m, m ∈ liveF g v ↔ m ∈ movesF v both ∧ liveT (madeF v m) = true := fun m => by
        rw [← hvg]; exact liveF_iff (by omega)
      have hin : ∀ m ∈ liveF g v, _ := fun m hm => movesF_in ((hif m).1 hm).1
      have hmk : ∀ m ∈ liveF g v, _ := fun m hm => made_spec v m (hin m hm).1 (hin m hm).2.1 (by omega)
      have hd : ∀ m ∈ liveF g v, _ := fun m hm => dF_made (w := f) ((hif m).1 hm).1
      have hml := mvE_len (liveF g v)
      have hdv := dF_bound (by omega : f.length ≤ 14) hvr
      have hmvl : (liveF g v).length ≤ v.length := Nat.le_trans (List.length_filter_le _ _) (movesF_len v both)
      generalize liveF g v = lm at *
      (repeat' ((conv => whnf); first | refine CondVC.t ?_ | refine CondVC.f ?_ | refine CondVC.dec (fun h => ?_) (fun h => ?_) | refine CondVC.ndec (fun h => ?_) (fun h => ?_) | refine CondVC.mk (fun h => ?_) (fun h => ?_) | refine ArVC.i64 (by first | omega | (simp only; omega)) ?_ | refine SideVC.mk (by first | omega | decide | (simp only; omega) | (simp [slS]; done) | (simp [slS]; omega) | (simp only [byteE_len, mvE_len, strE_len, intE_len, esC_len, List.length_cons, List.length_nil, List.length_append, List.length_replicate, List.length_set, Int.toNat_natCast, and_true] at *; omega)) ?_ | refine LoopN.go ?_ | exact trivial | refine AltVC.mk ?_ ?_ | refine HeldVC.mk rfl ?_ | refine LoadVC.mk _ g0 ?_ | refine SideVC.mk (by simp only; omega) ?_ | refine DrawVC.tree (id := 9) tt_ok [8, 3001] trL9 (by kernel_rfl) (by kernel_rfl) rfl ?_ | (refine CallVC.ex [2000] rfl hlv ?_; intro es2 hes2; refine ⟨rfl, ?_⟩) | refine OpVC.more tt_ok ?_ | refine RestVC.ext tt_ok ?_)); all_goals (conv => whnf)
      all_goals try (exfalso; simp only at *; omega)
      refine LoopVC.mk (G := Nat × List Tx × List Tx × Nat × List (List C)) (fun γ => ⟨[(44, .v (i64 γ.1)), (43, .v (i64 lm.length)), (42, .v (.c (.sl 2011))), (11, .v (.c (.sub 3001 γ.2.2.2.1 1 (γ.2.2.2.2.length - γ.2.2.2.1)))), (10, .v (.c (.mp 25))), (8, .v (.c (.ptr 8 0)))],
          [(2011, .sl 66 2 (mvE lm)), (3001, .sl 9 1 γ.2.2.2.2), (25, .ext (.mp none (bE f γ.2.1))), (8, .box 60 [.str g, .mp 2000]), (2000, .ext (.mp none es2))]⟩)
        (fun γ => γ.1 ≤ lm.length ∧ BfsLM f γ.2.1 v γ.2.2.1 lm γ.1 ∧ γ.2.2.2.1 ≤ γ.2.2.2.2.length ∧ γ.2.2.2.2.drop γ.2.2.2.1 = strE (v :: γ.2.2.1) ∧ γ.2.2.2.2.length ≤ γ.2.1.length ∧ γ.2.2.1.length + ks.length = R.length + γ.2.1.length ∧ ks.length ≤ γ.2.1.length) (fun γ => lm.length - γ.1) (0, ks, R, lo, q)
        ⟨Nat.zero_le _, bfsLM_start lm hB, hlo, hq, hqk, rfl, Nat.le_refl _⟩ (Sub.mk [] _ ⟨rfl, by rw [hml]; rfl, rfl, rfl, rfl, rfl, trivial⟩ rfl rfl) ?_
      rintro ⟨j, ks', R', lo', q'⟩ ⟨hj, hM, hlo', hq', hqk', hsum, hge⟩
      simp only at hj hM hlo' hq' hqk' hsum hge
      have hql' : q'.length - lo' = R'.length + 1 := by have := congrArg List.length hq'; rw [List.length_drop, strE_len] at this; exact this
      have hks' := bfsL_few hok (by omega) hM.b
      have g0' := hg q' lo' R' hq'
      by_cases hjl : j < lm.length
      · have hmem := List.getElem_mem hjl
        have gj : (mvE lm)[(j : Int).toNat]? = some (mvC lm[j]) := by rw [Int.toNat_natCast]; exact mvE_get hjl
        have h6 := hmk _ hmem
        have hdm := hd _ hmem
        have hold := bfsLM_old hM hjl
        have hnew := bfsLM_new (fun m hm => (hif m).1 hm) hM hjl
        obtain ⟨u, hu⟩ : ∃ u, u = madeF v lm[j] := ⟨_, rfl⟩
        rw [← hu] at h6 hdm hold hnew
        have hset : u ∉ ks' → setM (bE f ks') (C.str u) (V.c (C.int .i64 (dF f v + 1))) = bE f (ks' ++ [u]) := fun h => by rw [← hdm]; exact bE_set h
        have hdv' := hdv
        have hgetv : getM (bE f ks') (.str v) = some (i64 (dF f v)) := bE_mem (hM.b.sub v (by simp))
        (repeat' ((conv => whnf); first | refine CondVC.t ?_ | refine CondVC.f ?_ | refine CondVC.dec (fun h => ?_) (fun h => ?_) | refine CondVC.ndec (fun h => ?_) (fun h => ?_) | refine CondVC.mk (fun h => ?_) (fun h => ?_) | refine ArVC.i64 (by first | omega | (simp only; omega)) ?_ | refine SideVC.mk (by first | omega | decide | (simp only; omega) | (simp [slS]; done) | (simp [slS]; omega) | (simp only [byteE_len, mvE_len, strE_len, intE_len, esC_len, List.length_cons, List.length_nil, List.length_append, List.length_replicate, List.length_set, Int.toNat_natCast, and_true] at *; omega)) ?_ | refine LoopN.go ?_ | exact trivial | refine AltVC.mk ?_ ?_ | refine HeldVC.mk rfl ?_ | refine LoadVC.mk _ gj ?_ | refine LoadVC.mk _ g0' ?_ | refine SideVC.mk (by rw [hml]; omega) ?_ | refine SideVC.mk (by simp only; omega) ?_ | refine DrawVC.tree (id := 12) tt_ok [13, 3001] tx30_12 (by kernel_rfl) (by kernel_rfl) rfl ?_ | refine CallVC.pure h6 rfl ?_ | (refine LookVC.mk (fun x hx => ?_) (fun hx => ?_); obtain ⟨hxm, rfl⟩ := bE_some hx) | refine RestVC2.appendQ tt_ok rfl rfl rfl rfl rfl rfl rfl trivial (by simp only; omega) (Nat.succ_pos _) rfl (by simp only [List.length_cons, List.length_nil]; omega) (fun lo2 es2 k1 k2 k3 => ?_) | refine OpVC.more tt_ok ?_ | refine RestVC.ext tt_ok ?_)); all_goals (conv => whnf)
        all_goals first
          | (exfalso; simp only at *; omega)
          | exact ⟨(j+1, ks', R', lo', q'), ⟨by simp only; omega, hold hxm, hlo', hq', hqk', hsum, hge⟩, by simp only; omega, Sub.mk [] _ ⟨rfl, rfl, rfl, rfl, rfl, rfl, trivial⟩ rfl rfl⟩
          | (refine ⟨(j+1, ks' ++ [u], R' ++ [u], lo2, es2), ⟨by simp only; omega, hnew (bE_none (by assumption)), k1, by rw [k2, hq']; simp [strE], by simp only [List.length_append, List.length_cons, List.length_nil] at k3 ⊢; omega, by simp only [List.length_append, List.length_cons, List.length_nil]; omega, by simp only [List.length_append, List.length_cons, List.length_nil]; omega⟩, by simp only; omega, ?_⟩
             have hs2 := hset (bE_none (by assumption))
             exact Sub.mk [(3001, 72)] _ ⟨rfl, rfl, rfl, rfl, rfl, rfl, trivial⟩ (by simp only [hs2]; rfl) rfl)
          | (exfalso; rw [hgetv] at *; simp_all; done)
          | skip
      · have hE := bfsLM_end (fun m hm hlv => (hif m).2 ⟨hm, hlv⟩) hM (by omega)
        have hf1 : lo' + (q'.length - lo') = q'.length := by omega
        have hf2 : (0 : Int) ≤ 1 ∧ (1 : Int) ≤ ((q'.length - lo' : Nat) : Int) := by omega
        (repeat' ((conv => whnf); first | refine CondVC.t ?_ | refine CondVC.f ?_ | refine CondVC.dec (fun h => ?_) (fun h => ?_) | refine CondVC.ndec (fun h => ?_) (fun h => ?_) | refine CondVC.mk (fun h => ?_) (fun h => ?_) | refine ArVC.i64 (by first | omega | (simp only; omega)) ?_ | refine SideVC.mk (by first | omega | decide | (simp only; omega) | (simp [slS]; done) | (simp [slS]; omega) | (simp only [byteE_len, mvE_len, strE_len, intE_len, esC_len, List.length_cons, List.length_nil, List.length_append, List.length_replicate, List.length_set, Int.toNat_natCast, and_true] at *; omega)) ?_ | refine LoopN.go ?_ | exact trivial | refine AltVC.mk ?_ ?_ | refine HeldVC.mk rfl ?_ | refine RestVC2.restQ tt_ok rfl rfl rfl rfl rfl rfl hf1 hf2 rfl rfl (fun lo2 es3 k1 k2 k3 => ?_) | refine OpVC.more tt_ok ?_ | refine RestVC.ext tt_ok ?_)); all_goals (conv => whnf)
        all_goals first
          | (exfalso; simp only at *; omega)
          | exact ⟨(ks', R', lo2, es3, es2), ⟨hE, k1, by rw [k2, hq']; rfl, Nat.le_trans k3 hqk', hes2⟩, by simp only [List.length_cons]; omega, Sub.mk [(3001, 37)] _ ⟨rfl, rfl, rfl, trivial⟩ rfl rfl⟩
  · have hall : okLl f [] := ⟨fun hn => absurd hn hp, fun _ => rfl⟩
    rw [decide_eq_false hp] at h2
    generalize hgl : lastF f = g at *
    refine Spec.of_wpx tt_ok Try.func30 (by kernel_rfl) rfl ?_
    (repeat' ((conv => whnf); first | refine CondVC.t ?_ | refine CondVC.f ?_ | refine CondVC.dec (fun h => ?_) (fun h => ?_) | refine CondVC.ndec (fun h => ?_) (fun h => ?_) | refine CondVC.mk (fun h => ?_) (fun h => ?_) | refine ArVC.i64 (by first | omega | (simp only; omega)) ?_ | refine SideVC.mk (by first | omega | decide | (simp only; omega) | (simp [slS]; done) | (simp [slS]; omega) | (simp only [byteE_len, mvE_len, strE_len, intE_len, esC_len, List.length_cons, List.length_nil, List.length_append, List.length_replicate, List.length_set, Int.toNat_natCast, and_true] at *; omega)) ?_ | refine LoopN.go ?_ | exact trivial | refine AltVC.mk ?_ ?_ | refine HeldVC.mk rfl ?_ | (refine CallVC.ex [] rfl h2 ?_; intro es1 hes1; refine ⟨rfl, ?_⟩) | refine OpVC.more tt_ok ?_ | refine RestVC.ext tt_ok ?_)); all_goals (conv => whnf)
    all_goals exact RetVC.ren [(1001, 25)] [.c (.mp 1001)] [(1001, .ext (.mp none []))] rfl rfl rfl ⟨[], hall, rfl, rfl⟩

def cntLF (x y z : Int) : Int := if numsF x y z 8 then (if 0 < wp (lastF (firstF x.toNat y.toNat z.toNat)) (firstF x.toNat y.toNat z.toNat) then (sumL (firstF x.toNat y.toNat z.toNat) (potF (firstF x.toNat y.toNat z.toNat) + 1) : Nat) else 0) else 0
theorem cl_spec {f : Tx} {n : Nat} (h : okCl f n) : sumL f n = if 0 < wp (lastF f) f then sumL f (potF f + 1) else 0 := by
  split
  · rename_i hp
    have h1 := h.1 hp
    have e : ∀ n, layL f n = [] → ∀ d, sumL f (n + d) = sumL f n := fun n hn d => by
      induction d with
      | zero => rfl
      | succ d ih =>
        show sumL f (n + d + 1) = _
        rw [sumL_succ, ih, layL_stop hn (by omega)]; rfl
    have h2 : layL f (potF f + 1) = [] := layL_none (by omega)
    rcases Nat.le_total n (potF f + 1) with hle | hle
    · have := e n h1 (potF f + 1 - n)
      rw [show n + (potF f + 1 - n) = potF f + 1 by omega] at this
      rw [this]
    · have := e _ h2 (n - (potF f + 1))
      rw [show potF f + 1 + (n - (potF f + 1)) = n by omega] at this
      rw [this]
  · rename_i hp
    rw [h.2 hp]; rfl
theorem ll_len {f : Tx} (hf : f.length ≤ 8) (hok : f.all okCh = true) {ks : List Tx} (h : okLl f ks) : ks.length = if 0 < wp (lastF f) f then sumL f (potF f + 1) else 0 := by
  split
  · rename_i hp
    exact bfsL_len hf hok (by unfold liveT; rw [decide_eq_true hp]) (h.1 hp) (layL_none (by omega))
  · rename_i hp
    rw [h.2 hp]; rfl
theorem implCountLive_spec (x y z : Int) : Spec Try.prog 9 [i64 x, i64 y, i64 z] [] (isRes [i64 (cntLF x y z), vb (numsF x y z 8)] []) := by
  have h1 := areCounts_spec x y z 8 (by omega)
  unfold cntLF
  refine Spec.of_wpx tt_ok Try.func9 (by kernel_rfl) rfl ?_
  cases hn : numsF x y z 8 with
  | true =>
    rw [hn] at h1
    obtain ⟨a, b, c, rfl, rfl, rfl, hge, hle⟩ := nums_cast hn
    rw [if_pos rfl]
    simp only [Int.toNat_natCast]
    have h2 := liveLines_spec a b c ⟨hge, by omega⟩
    have hlen := fun ks (h : okLl (firstF a b c) ks) => ll_len (by rw [firstF_len]; omega) (firstF_ok a b c) h
    have hbl := bE_len (firstF a b c)
    generalize firstF a b c = f at *
    (repeat' ((conv => whnf); first | refine CondVC.t ?_ | refine CondVC.f ?_ | refine CondVC.dec (fun h => ?_) (fun h => ?_) | refine CondVC.ndec (fun h => ?_) (fun h => ?_) | refine CondVC.mk (fun h => ?_) (fun h => ?_) | refine ArVC.i64 (by first | omega | (simp only; omega)) ?_ | refine SideVC.mk (by first | omega | decide | (simp only; omega) | (simp [slS]; done) | (simp [slS]; omega) | (simp only [byteE_len, mvE_len, strE_len, intE_len, esC_len, List.length_cons, List.length_nil, List.length_append, List.length_replicate, List.length_set, Int.toNat_natCast, and_true] at *; omega)) ?_ | refine LoopN.go ?_ | exact trivial | refine AltVC.mk ?_ ?_ | refine HeldVC.mk rfl ?_ | refine CallVC.pure h1 rfl ?_ | (refine CallVC.ex [] rfl h2 ?_; intro ks hks; refine ⟨rfl, ?_⟩; have hlen := hlen ks hks) | refine OpVC.more tt_ok ?_ | refine RestVC.ext tt_ok ?_)); all_goals (conv => whnf)
    all_goals (refine RetVC.res ?_ rfl; rw [hbl, hlen]; split <;> rfl)
  | false =>
    rw [hn] at h1
    (repeat' ((conv => whnf); first | refine CondVC.t ?_ | refine CondVC.f ?_ | refine CondVC.dec (fun h => ?_) (fun h => ?_) | refine CondVC.ndec (fun h => ?_) (fun h => ?_) | refine CondVC.mk (fun h => ?_) (fun h => ?_) | refine ArVC.i64 (by first | omega | (simp only; omega)) ?_ | refine SideVC.mk (by first | omega | decide | (simp only; omega) | (simp [slS]; done) | (simp [slS]; omega) | (simp only [byteE_len, mvE_len, strE_len, intE_len, esC_len, List.length_cons, List.length_nil, List.length_append, List.length_replicate, List.length_set, Int.toNat_natCast, and_true] at *; omega)) ?_ | refine LoopN.go ?_ | exact trivial | refine AltVC.mk ?_ ?_ | refine HeldVC.mk rfl ?_ | refine CallVC.pure h1 rfl ?_ | refine OpVC.more tt_ok ?_ | refine RestVC.ext tt_ok ?_)); all_goals (conv => whnf)
    all_goals exact RetVC.res rfl rfl
theorem specCountLive_spec (x y z : Int) : Spec Try.prog 8 [i64 x, i64 y, i64 z] [] (isRes [i64 (cntLF x y z), vb (numsF x y z 8)] []) := by
  cases hn : numsF x y z 8 with
  | true =>
    unfold cntLF
    obtain ⟨a, b, c, rfl, rfl, rfl, hge, hle⟩ := nums_cast hn
    rw [hn, if_pos rfl]
    simp only [Int.toNat_natCast]
    refine (specCountLive_yes a b c ⟨hge, by omega⟩).weaken ?_
    rintro vs m ⟨n, hnn, rfl, rfl⟩
    refine ⟨?_, rfl⟩
    show [i64 ((sumL (firstF a b c) n : Nat) : Int), vb true] = _
    rw [cl_spec hnn]
    split <;> rfl
  | false =>
    unfold cntLF
    rw [hn]
    have h1 := swNumbers_spec x y z
    rw [hn] at h1
    refine Spec.of_wpx tt_ok Try.func8 (by kernel_rfl) rfl ?_
    (repeat' ((conv => whnf); first | refine CondVC.t ?_ | refine CondVC.f ?_ | refine CondVC.dec (fun h => ?_) (fun h => ?_) | refine CondVC.ndec (fun h => ?_) (fun h => ?_) | refine CondVC.mk (fun h => ?_) (fun h => ?_) | refine ArVC.i64 (by first | omega | (simp only; omega)) ?_ | refine SideVC.mk (by first | omega | decide | (simp only; omega) | (simp [slS]; done) | (simp [slS]; omega) | (simp only [byteE_len, mvE_len, strE_len, intE_len, esC_len, List.length_cons, List.length_nil, List.length_append, List.length_replicate, List.length_set, Int.toNat_natCast, and_true] at *; omega)) ?_ | refine LoopN.go ?_ | exact trivial | refine AltVC.mk ?_ ?_ | refine HeldVC.mk rfl ?_ | refine CallVC.pure h1 rfl ?_ | refine OpVC.more tt_ok ?_ | refine RestVC.ext tt_ok ?_)); all_goals (conv => whnf)
    all_goals exact RetVC.res rfl rfl
theorem lawCountLive_spec (x y z : Int) : Spec Try.prog 3 [i64 x, i64 y, i64 z] [] (isRes [vb true] []) := by
  have h1 := specCountLive_spec x y z
  have h2 := implCountLive_spec x y z
  generalize cntLF x y z = q at *
  generalize numsF x y z 8 = b at *
  refine Spec.of_wpx tt_ok Try.func3 (by kernel_rfl) rfl ?_
  cases b
  all_goals
    (repeat' ((conv => whnf); first | refine CondVC.t ?_ | refine CondVC.f ?_ | refine CondVC.dec (fun h => ?_) (fun h => ?_) | refine CondVC.ndec (fun h => ?_) (fun h => ?_) | refine CondVC.mk (fun h => ?_) (fun h => ?_) | refine ArVC.i64 (by first | omega | (simp only; omega)) ?_ | refine SideVC.mk (by first | omega | decide | (simp only; omega) | (simp [slS]; done) | (simp [slS]; omega) | (simp only [byteE_len, mvE_len, strE_len, intE_len, esC_len, List.length_cons, List.length_nil, List.length_append, List.length_replicate, List.length_set, Int.toNat_natCast, and_true] at *; omega)) ?_ | refine LoopN.go ?_ | exact trivial | refine AltVC.mk ?_ ?_ | refine HeldVC.mk rfl ?_ | refine CallVC.pure h1 rfl ?_ | refine CallVC.pure h2 rfl ?_ | refine OpVC.more tt_ok ?_ | refine RestVC.ext tt_ok ?_)); all_goals (conv => whnf)
    all_goals first | exact RetVC.res rfl rfl | (exfalso; omega) | (exfalso; simp_all; done)
end Go.Proofs.Ytblihaicbhdbdaa.X
