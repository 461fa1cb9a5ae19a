/- Games: how many moves the longest and the shortest one has, and how many games there are. No condition. -/
import Derived.Test.YtblihaicbhdbdaaDoorKeyF
import Derived.Test.YtblihaicbhdbdaaDoorWoF
namespace Go.Proofs.YtblihaicbhdbdaaDoor.X
set_option linter.unusedVariables false
set_option linter.unusedSimpArgs false

/-! ### How many moves of a kind -/
theorem few_p {p : Nat → Bool} : ∀ {N : Nat} {l : List Nat}, l.Nodup → (∀ x ∈ l, x < N ∧ p x = true) → l.length ≤ (List.range N).countP p
  | 0, l, _, h => by
    cases l with
    | nil => simp
    | cons x l => exact absurd (h x List.mem_cons_self).1 (Nat.not_lt_zero _)
  | N + 1, l, hn, h => by
    have h1 := few_p (p := p) (N := N) (l := l.filter fun x => decide (x ≠ N)) (hn.filter _) (fun x hx => by
      simp only [List.mem_filter, decide_eq_true_eq] at hx
      have := h x hx.1
      exact ⟨by omega, this.2⟩)
    have h2 : l.count N ≤ 1 := List.nodup_iff_count.1 hn N
    have h3 := List.length_eq_countP_add_countP (l := l) (p := fun x => decide (x ≠ N))
    rw [List.countP_eq_length_filter] at h3
    have h4 : l.countP (fun a => decide ¬ ((decide (a ≠ N)) = true)) = l.count N := by
      unfold List.count
      refine List.countP_congr fun x hx => ?_
      simp
    rw [h4] at h3
    rw [List.range_succ, List.countP_append]
    have h5 : 0 < l.count N → p N = true := fun hc => (h N (List.count_pos_iff.1 hc)).2
    by_cases hc : 0 < l.count N
    · have : (List.countP p [N]) = 1 := by simp [h5 hc]
      omega
    · omega
theorem count_range (w : Tx) (b : UInt8) : (List.range w.length).countP (fun i => decide (w.getD i 0 = b)) = w.count b := by
  have e : w = (List.range w.length).map fun i => w.getD i 0 := by
    apply List.ext_getElem
    · simp
    · intro i h1 h2
      simp only [List.getElem_map, List.getElem_range]
      rw [List.getD_eq_getElem?_getD, List.getElem?_eq_getElem h1, Option.getD_some]
  conv => rhs; rw [e]
  unfold List.count
  rw [List.countP_map]
  refine List.countP_congr fun i _ => ?_
  simp
theorem tgt_lt {w : Tx} {k : UInt8} {m m' : Mv} (h : m ∈ movesF w [k]) (h' : m' ∈ movesF w [k]) (hlt : m.1 < m'.1) : m.2 < m'.2 := by
  have hk := kind_of h
  have hk' := kind_of h'
  cases move_shape h with
  | tslide u v e _ e1 e2 =>
    have p1 : w.getD u.length 0 = 84 := by rw [e, getD_app0]
    rw [e1, Int.toNat_natCast, p1] at hk
    cases move_shape h' with
    | tslide u' v' e' _ e1' e2' => omega
    | tjump u' v' e' _ e1' e2' => omega
    | fslide u' v' e' _ e1' e2' =>
      have q1 : w.getD (u'.length + 1) 0 = 70 := by rw [e', getD_app1]
      rw [e1', show ((u'.length : Int) + 1).toNat = u'.length + 1 by omega, q1, ← hk] at hk'
      exact absurd hk' (by decide)
    | fjump u' v' e' _ e1' e2' =>
      have q1 : w.getD (u'.length + 2) 0 = 70 := by rw [e', getD_app2]
      rw [e1', show ((u'.length : Int) + 2).toNat = u'.length + 2 by omega, q1, ← hk] at hk'
      exact absurd hk' (by decide)
  | tjump u v e _ e1 e2 =>
    have p1 : w.getD u.length 0 = 84 := by rw [e, getD_app0]
    have p3 : w.getD (u.length + 1) 0 = 70 := by rw [e, getD_app1]
    rw [e1, Int.toNat_natCast, p1] at hk
    cases move_shape h' with
    | tslide u' v' e' _ e1' e2' =>
      have q1 : w.getD u'.length 0 = 84 := by rw [e', getD_app0]
      by_cases hc : u'.length = u.length + 1
      · rw [hc, p3] at q1; exact absurd q1 (by decide)
      · omega
    | tjump u' v' e' _ e1' e2' => omega
    | fslide u' v' e' _ e1' e2' =>
      have q1 : w.getD (u'.length + 1) 0 = 70 := by rw [e', getD_app1]
      rw [e1', show ((u'.length : Int) + 1).toNat = u'.length + 1 by omega, q1, ← hk] at hk'
      exact absurd hk' (by decide)
    | fjump u' v' e' _ e1' e2' =>
      have q1 : w.getD (u'.length + 2) 0 = 70 := by rw [e', getD_app2]
      rw [e1', show ((u'.length : Int) + 2).toNat = u'.length + 2 by omega, q1, ← hk] at hk'
      exact absurd hk' (by decide)
  | fslide u v e _ e1 e2 =>
    have p1 : w.getD (u.length + 1) 0 = 70 := by rw [e, getD_app1]
    rw [e1, show ((u.length : Int) + 1).toNat = u.length + 1 by omega, p1] at hk
    cases move_shape h' with
    | tslide u' v' e' _ e1' e2' =>
      have q1 : w.getD u'.length 0 = 84 := by rw [e', getD_app0]
      rw [e1', Int.toNat_natCast, q1, ← hk] at hk'
      exact absurd hk' (by decide)
    | tjump u' v' e' _ e1' e2' =>
      have q1 : w.getD u'.length 0 = 84 := by rw [e', getD_app0]
      rw [e1', Int.toNat_natCast, q1, ← hk] at hk'
      exact absurd hk' (by decide)
    | fslide u' v' e' _ e1' e2' => omega
    | fjump u' v' e' _ e1' e2' =>
      have q1 : w.getD (u'.length + 1) 0 = 84 := by rw [e', getD_app1]
      by_cases hc : u'.length = u.length
      · rw [hc, p1] at q1; exact absurd q1 (by decide)
      · omega
  | fjump u v e _ e1 e2 =>
    have p1 : w.getD (u.length + 2) 0 = 70 := by rw [e, getD_app2]
    rw [e1, show ((u.length : Int) + 2).toNat = u.length + 2 by omega, p1] at hk
    cases move_shape h' with
    | tslide u' v' e' _ e1' e2' =>
      have q1 : w.getD u'.length 0 = 84 := by rw [e', getD_app0]
      rw [e1', Int.toNat_natCast, q1, ← hk] at hk'
      exact absurd hk' (by decide)
    | tjump u' v' e' _ e1' e2' =>
      have q1 : w.getD u'.length 0 = 84 := by rw [e', getD_app0]
      rw [e1', Int.toNat_natCast, q1, ← hk] at hk'
      exact absurd hk' (by decide)
    | fslide u' v' e' _ e1' e2' => omega
    | fjump u' v' e' _ e1' e2' => omega
theorem kind_le (w : Tx) (k : UInt8) : (movesF w [k]).length ≤ w.count k := by
  have h := few_p (N := w.length) (p := fun i => decide (w.getD i 0 = k)) (l := (movesF w [k]).map fun m => m.1.toNat) (by
    rw [List.Nodup, List.pairwise_map]
    refine List.Pairwise.imp_of_mem ?_ (moves_sorted w [k])
    intro a b ha hb hab e
    have h1 := (movesF_in ha).1
    have h2 := (movesF_in hb).1
    omega) (fun x hx => by
    obtain ⟨m, hm, rfl⟩ := List.mem_map.1 hx
    have h1 := (movesF_in hm).1
    exact ⟨by omega, decide_eq_true (kind_of hm)⟩)
  rw [count_range] at h
  simpa using h
theorem gap_le (w : Tx) (k : UInt8) : (movesF w [k]).length ≤ w.count 46 := by
  have h := few_p (N := w.length) (p := fun i => decide (w.getD i 0 = 46)) (l := (movesF w [k]).map fun m => m.2.toNat) (by
    rw [List.Nodup, List.pairwise_map]
    refine List.Pairwise.imp_of_mem ?_ (moves_sorted w [k])
    intro a b ha hb hab e
    have h1 := (movesF_in ha).2.1
    have h2 := (movesF_in hb).2.1
    have := tgt_lt ha hb hab
    omega) (fun x hx => by
    obtain ⟨m, hm, rfl⟩ := List.mem_map.1 hx
    have h1 := (movesF_in hm).2.1
    refine ⟨by omega, decide_eq_true ?_⟩
    obtain ⟨i, _, _, hg, _⟩ := movesF_mem hm
    have h2 := (goalF_spec hg).2.2.1
    rw [atF_in ⟨h1.1, h1.2⟩] at h2
    exact h2)
  rw [count_range] at h
  simpa using h

/-! ### Games -/
def maxL (l : List Int) : Int := l.foldl (fun a x => max a (x + 1)) 0
def minL : List Int → Int
  | [] => 0
  | x :: l => l.foldl (fun a y => min a (y + 1)) (x + 1)
def cntL (l : List Nat) : Nat := if l = [] then 1 else l.sum
structure Gm where
  long : Int
  short : Int
  count : Nat
def ofL (l : List Gm) : Gm := ⟨maxL (l.map (·.long)), minL (l.map (·.short)), cntL (l.map (·.count))⟩
def gamF (w : Tx) (t : Bool) : Gm := ofL ((movesF w (kOf t)).attach.map fun m => gamF (madeF w m.1) (!t))
termination_by wayF w
decreasing_by exact way_made m.2
def resL (w : Tx) (t : Bool) : List Gm := (movesF w (kOf t)).map fun m => gamF (madeF w m) (!t)
theorem gamF_eq (w : Tx) (t : Bool) : gamF w t = ofL (resL w t) := by
  rw [gamF]
  unfold resL
  congr 1
  exact List.attach_map_val (f := fun m => gamF (madeF w m) (!t)) (l := movesF w (kOf t))
theorem resL_len (w : Tx) (t : Bool) : (resL w t).length = (movesF w (kOf t)).length := by simp [resL]
theorem resL_get {w : Tx} {t : Bool} {k : Nat} (h : k < (movesF w (kOf t)).length) : (resL w t)[k]'(by rw [resL_len]; exact h) = gamF (madeF w (movesF w (kOf t))[k]) (!t) := by simp [resL]
def longTo (l : List Gm) (k : Nat) : Int := maxL ((l.take k).map (·.long))
def shortTo (l : List Gm) (k : Nat) : Int := minL ((l.take k).map (·.short))
def cntTo (l : List Gm) (k : Nat) : Nat := ((l.take k).map (·.count)).sum
theorem longTo_succ {l : List Gm} {k : Nat} (h : k < l.length) : longTo l (k + 1) = max (longTo l k) (l[k].long + 1) := by
  unfold longTo maxL
  rw [List.take_succ_eq_append_getElem h, List.map_append, List.foldl_append]; rfl
theorem shortTo_one {l : List Gm} (h : 0 < l.length) : shortTo l 1 = l[0].short + 1 := by
  cases l with
  | nil => simp at h
  | cons a l => rfl
theorem shortTo_succ {l : List Gm} {k : Nat} (h : k < l.length) (h0 : k ≠ 0) : shortTo l (k + 1) = min (shortTo l k) (l[k].short + 1) := by
  unfold shortTo
  rw [List.take_succ_eq_append_getElem h, List.map_append]
  cases l with
  | nil => simp at h
  | cons a l =>
    obtain ⟨j, rfl⟩ : ∃ j, k = j + 1 := ⟨k - 1, by omega⟩
    simp only [List.take_succ_cons, List.map_cons, List.cons_append, minL, List.foldl_append, List.map_nil]
    rfl
theorem cntTo_succ {l : List Gm} {k : Nat} (h : k < l.length) : cntTo l (k + 1) = cntTo l k + l[k].count := by
  unfold cntTo
  rw [List.take_succ_eq_append_getElem h, List.map_append, List.sum_append]
  simp
theorem longTo_end {l : List Gm} {k : Nat} (h : l.length ≤ k) : longTo l k = (ofL l).long := by unfold longTo; rw [List.take_of_length_le h]; rfl
theorem shortTo_end {l : List Gm} {k : Nat} (h : l.length ≤ k) : shortTo l k = (ofL l).short := by unfold shortTo; rw [List.take_of_length_le h]; rfl
theorem cntTo_end {l : List Gm} {k : Nat} (h : l.length ≤ k) (h0 : l ≠ []) : cntTo l k = (ofL l).count := by
  unfold cntTo ofL cntL
  rw [List.take_of_length_le h]
  simp [h0]
theorem cnt_none {l : List Gm} (h0 : l = []) : (ofL l).count = 1 := by subst h0; rfl
theorem maxL_bound {l : List Int} {b : Int} (h0 : 0 ≤ b) (h : ∀ x ∈ l, x + 1 ≤ b) : 0 ≤ maxL l ∧ maxL l ≤ b :=
  ⟨le_foldl_max (g := fun x : Int => x + 1), foldl_max_le (g := fun x : Int => x + 1) h0 h⟩
theorem foldl_min_bound {b : Int} : ∀ {l : List Int} {a : Int}, 0 ≤ a → a ≤ b → (∀ x ∈ l, 0 ≤ x) → 0 ≤ l.foldl (fun a y => min a (y + 1)) a ∧ l.foldl (fun a y => min a (y + 1)) a ≤ b
  | [], a, h1, h2, _ => ⟨h1, h2⟩
  | x :: l, a, h1, h2, h => by
    have hx := h x List.mem_cons_self
    exact foldl_min_bound (l := l) (a := min a (x + 1)) (by omega) (by omega) fun y hy => h y (List.mem_cons_of_mem _ hy)
theorem minL_bound {l : List Int} {b : Int} (h0 : 0 ≤ b) (h : ∀ x ∈ l, 0 ≤ x ∧ x + 1 ≤ b) : 0 ≤ minL l ∧ minL l ≤ b := by
  cases l with
  | nil => exact ⟨Int.le_refl _, h0⟩
  | cons x l =>
    have := h x List.mem_cons_self
    exact foldl_min_bound (by omega) this.2 fun y hy => (h y (List.mem_cons_of_mem _ hy)).1
theorem gam_bound : ∀ (n : Nat) (w : Tx) (t : Bool), wayF w ≤ n → (0 ≤ (gamF w t).long ∧ (gamF w t).long ≤ wayF w) ∧ (0 ≤ (gamF w t).short ∧ (gamF w t).short ≤ wayF w)
  | n, w, t, hn => by
    have hr : ∀ g ∈ resL w t, (0 ≤ g.long ∧ g.long + 1 ≤ wayF w) ∧ (0 ≤ g.short ∧ g.short + 1 ≤ wayF w) := fun g hg => by
      obtain ⟨m, hm, rfl⟩ := List.mem_map.1 hg
      have h1 := way_made hm
      have := gam_bound (wayF (madeF w m)) (madeF w m) (!t) (Nat.le_refl _)
      omega
    rw [gamF_eq]
    exact ⟨maxL_bound (by omega) fun x hx => by obtain ⟨g, hg, rfl⟩ := List.mem_map.1 hx; exact (hr g hg).1.2, minL_bound (by omega) fun x hx => by obtain ⟨g, hg, rfl⟩ := List.mem_map.1 hx; exact (hr g hg).2⟩
termination_by n => n
decreasing_by have := way_made hm; omega
theorem to_bound (w : Tx) (t : Bool) (k : Nat) : (0 ≤ longTo (resL w t) k ∧ longTo (resL w t) k ≤ wayF w) ∧ (0 ≤ shortTo (resL w t) k ∧ shortTo (resL w t) k ≤ wayF w) := by
  have hr : ∀ g ∈ (resL w t).take k, (0 ≤ g.long ∧ g.long + 1 ≤ wayF w) ∧ (0 ≤ g.short ∧ g.short + 1 ≤ wayF w) := fun g hg => by
    obtain ⟨m, hm, rfl⟩ := List.mem_map.1 (List.mem_of_mem_take hg)
    have h1 := way_made hm
    have := gam_bound (wayF (madeF w m)) (madeF w m) (!t) (Nat.le_refl _)
    omega
  exact ⟨maxL_bound (by omega) fun x hx => by obtain ⟨g, hg, rfl⟩ := List.mem_map.1 hx; exact (hr g hg).1.2, minL_bound (by omega) fun x hx => by obtain ⟨g, hg, rfl⟩ := List.mem_map.1 hx; exact (hr g hg).2⟩
/-! ### How many games -/
def bndC (A B : Nat) : Nat → Bool → Nat
  | 0, _ => 1
  | n + 1, true => A * bndC A B n false
  | n + 1, false => B * bndC A B n true
theorem bndC_pos {A B : Nat} (ha : 1 ≤ A) (hb : 1 ≤ B) : ∀ (n : Nat) (t : Bool), 1 ≤ bndC A B n t
  | 0, _ => Nat.le_refl _
  | n + 1, true => Nat.mul_le_mul ha (bndC_pos ha hb n false)
  | n + 1, false => Nat.mul_le_mul hb (bndC_pos ha hb n true)
theorem cnt_pos : ∀ (n : Nat) (w : Tx) (t : Bool), wayF w ≤ n → 1 ≤ (gamF w t).count
  | n, w, t, hn => by
    rw [gamF_eq]
    by_cases h0 : resL w t = []
    · rw [cnt_none h0]; exact Nat.le_refl _
    · rw [← cntTo_end (Nat.le_refl _) h0]
      unfold cntTo
      rw [List.take_length]
      cases hr : resL w t with
      | nil => exact absurd hr h0
      | cons g l =>
        have hg : g ∈ resL w t := by rw [hr]; exact List.mem_cons_self
        obtain ⟨m, hm, rfl⟩ := List.mem_map.1 hg
        have := cnt_pos (wayF (madeF w m)) (madeF w m) (!t) (Nat.le_refl _)
        simp only [List.map_cons, List.sum_cons]
        omega
termination_by n => n
decreasing_by have := way_made hm; omega
theorem cnt_bnd (A B : Nat) (ha : 1 ≤ A) (hb : 1 ≤ B) : ∀ (n : Nat) (w : Tx) (t : Bool), potF w = n → w.count 84 ≤ A ∨ w.count 46 ≤ A → w.count 70 ≤ B ∨ w.count 46 ≤ B → (gamF w t).count ≤ bndC A B n t
  | n, w, t, hn, h1, h2 => by
    rw [gamF_eq]
    by_cases h0 : resL w t = []
    · rw [cnt_none h0]; exact bndC_pos ha hb n t
    · rw [← cntTo_end (Nat.le_refl _) h0]
      unfold cntTo
      rw [List.take_length]
      have hml : (movesF w (kOf t)).length ≤ if t then A else B := by
        have e1 := kind_le w 84
        have e2 := gap_le w 84
        have e3 := kind_le w 70
        have e4 := gap_le w 70
        cases t
        · simp only [kOf, Bool.false_eq_true, if_false]; omega
        · simp only [kOf, if_true]; omega
      cases n with
      | zero =>
        exfalso
        apply h0
        unfold resL
        rw [List.map_eq_nil_iff]
        cases hm : movesF w (kOf t) with
        | nil => rfl
        | cons m l =>
          have := pot_made (w := w) (kinds := kOf t) (m := m) (by rw [hm]; exact List.mem_cons_self)
          omega
      | succ n =>
        unfold resL
        rw [List.map_map]
        have h3 := sum_le_mul ((fun g : Gm => g.count) ∘ fun m => gamF (madeF w m) (!t)) (bndC A B n (!t)) (movesF w (kOf t)) fun m hm => by
          have := pot_made hm
          exact cnt_bnd A B ha hb n (madeF w m) (!t) (by omega) (by rw [count_made hm, count_made hm]; exact h1) (by rw [count_made hm, count_made hm]; exact h2)
        refine Nat.le_trans h3 ?_
        cases t
        · exact Nat.mul_le_mul_right _ (by simpa using hml)
        · exact Nat.mul_le_mul_right _ (by simpa using hml)
theorem cnt_few {w : Tx} (h : w.length ≤ 10) (t : Bool) : (gamF w t).count ≤ 4611686018427387904 := by
  have hc : w.count 70 + w.count 46 + w.count 84 ≤ w.length := count3_le w
  have hp := pot10 h
  generalize hT : w.count 84 = T at *
  generalize hG : w.count 46 = G at *
  generalize hF : w.count 70 = F at *
  have k1 : ∀ T G F : Fin 11, T.val + G.val + F.val ≤ 10 → (max 1 (min T.val G.val)) * (max 1 (min F.val G.val)) ≤ 9 := by decide +kernel
  have k2 : ∀ A B : Fin 11, A.val * B.val ≤ 9 → ∀ n : Fin 34, bndC A.val B.val n.val true ≤ 4611686018427387904 ∧ bndC A.val B.val n.val false ≤ 4611686018427387904 := by decide +kernel
  have h1 := k1 ⟨T, by omega⟩ ⟨G, by omega⟩ ⟨F, by omega⟩ (by simp only; omega)
  simp only at h1
  have h2 := cnt_bnd (max 1 (min T G)) (max 1 (min F G)) (by omega) (by omega) _ w t rfl (by omega) (by omega)
  have h3 := k2 ⟨max 1 (min T G), by omega⟩ ⟨max 1 (min F G), by omega⟩ h1 ⟨potF w, by omega⟩
  simp only at h3
  cases t
  · exact Nat.le_trans h2 h3.2
  · exact Nat.le_trans h2 h3.1
theorem cntTo_le (w : Tx) (t : Bool) (k : Nat) : cntTo (resL w t) k ≤ (gamF w t).count := by
  rw [gamF_eq]
  by_cases h0 : resL w t = []
  · rw [h0]; simp [cntTo]
  · rw [← cntTo_end (Nat.le_refl _) h0]
    unfold cntTo
    rw [List.take_length, List.map_take]
    exact sum_take_le _ _
end Go.Proofs.YtblihaicbhdbdaaDoor.X
