/- Lines that are reached: by how many moves, layer by layer. No condition. -/
import Derived.Test.YtblihaicbhdbdaaDoorSwapF
namespace Go.Proofs.YtblihaicbhdbdaaDoor.X
set_option linter.unusedVariables false
set_option linter.unusedSimpArgs false

/-! ### Texts in order -/
def ltT (a b : Tx) : Bool := Op.bytesLess a b
theorem u8_lt_nat (a b : UInt8) : (a < b) ↔ a.toNat < b.toNat := UInt8.lt_iff_toNat_lt
theorem ltT_nil (b : Tx) : ltT b [] = false := by cases b <;> rfl
theorem ltT_cons (a b : UInt8) (x y : Tx) : ltT (a :: x) (b :: y) = (decide (a < b) || (a == b && ltT x y)) := by
  unfold ltT
  simp only [Op.bytesLess]
  try rfl
theorem ltT_irrefl : ∀ a : Tx, ltT a a = false
  | [] => rfl
  | c :: x => by
    rw [ltT_cons, ltT_irrefl x]
    have : ¬ c < c := by rw [u8_lt_nat]; omega
    simp [this]
theorem ltT_trans : ∀ {a b c : Tx}, ltT a b = true → ltT b c = true → ltT a c = true
  | _, b, [], _, h => by rw [ltT_nil] at h; cases h
  | _, [], _ :: _, h, _ => by rw [ltT_nil] at h; cases h
  | [], _ :: _, _ :: _, _, _ => rfl
  | a :: x, b :: y, c :: z, h1, h2 => by
    rw [ltT_cons] at h1 h2 ⊢
    simp only [Bool.or_eq_true, Bool.and_eq_true, decide_eq_true_eq, beq_iff_eq] at h1 h2 ⊢
    rcases h1 with h1 | ⟨rfl, h1⟩
    · rcases h2 with h2 | ⟨rfl, h2⟩
      · left; rw [u8_lt_nat] at *; omega
      · exact .inl h1
    · rcases h2 with h2 | ⟨rfl, h2⟩
      · exact .inl h2
      · exact .inr ⟨rfl, ltT_trans h1 h2⟩
theorem ltT_total : ∀ {a b : Tx}, ltT a b = false → a ≠ b → ltT b a = true
  | [], [], _, h => absurd rfl h
  | [], _ :: _, h, _ => by cases h
  | _ :: _, [], _, _ => rfl
  | a :: x, b :: y, h, hn => by
    rw [ltT_cons] at h ⊢
    simp only [Bool.or_eq_false_iff, Bool.and_eq_false_iff, decide_eq_false_iff_not, beq_eq_false_iff_ne, Bool.or_eq_true, Bool.and_eq_true, decide_eq_true_eq, beq_iff_eq] at h ⊢
    by_cases e : a = b
    · subst e
      exact .inr ⟨rfl, ltT_total (h.2.resolve_left fun k => k rfl) fun e => hn (by rw [e])⟩
    · left
      have h1 := h.1
      rw [u8_lt_nat] at *
      have : a.toNat ≠ b.toNat := fun k => e (UInt8.toNat_inj.1 k)
      omega
theorem ltT_asymm {a b : Tx} (h : ltT a b = true) : ltT b a = false := by
  cases hb : ltT b a with
  | false => rfl
  | true => have := ltT_trans h hb; rw [ltT_irrefl] at this; cases this

/-- Texts in order, each once. -/
def sortedT (l : List Tx) : Prop := l.Pairwise fun a b => ltT a b = true
theorem sortedT_at {l : List Tx} (h : sortedT l) {i j : Nat} (hj : j < l.length) (hij : i < j) : ltT (l[i]'(by omega)) l[j] = true := List.pairwise_iff_getElem.1 h i j (by omega) hj hij
theorem sortedT_nodup {l : List Tx} (h : sortedT l) : l.Nodup := h.imp fun {a b} hab e => by subst e; rw [ltT_irrefl] at hab; cases hab
/-- A text put where it belongs, behind the first k. -/
def putF (l : List Tx) (k : Nat) (w : Tx) : List Tx := l.take k ++ [w] ++ l.drop k
def isPlace (l : List Tx) (w : Tx) (k : Nat) : Prop := k ≤ l.length ∧ (∀ j (hj : j < l.length), j < k → ltT l[j] w = true) ∧ ∀ j (hj : j < l.length), k ≤ j → ltT l[j] w = false
theorem isPlace_unique {l : List Tx} {w : Tx} {k k' : Nat} (h : isPlace l w k) (h' : isPlace l w k') : k = k' := by
  rcases Nat.lt_trichotomy k k' with hlt | e | hlt
  · have a := h.2.2 k (by have := h'.1; omega) (Nat.le_refl _)
    have b := h'.2.1 k (by have := h'.1; omega) hlt
    rw [a] at b; cases b
  · exact e
  · have a := h'.2.2 k' (by have := h.1; omega) (Nat.le_refl _)
    have b := h.2.1 k' (by have := h.1; omega) hlt
    rw [a] at b; cases b
def placeF : List Tx → Tx → Nat
  | [], _ => 0
  | x :: r, w => if ltT x w then placeF r w + 1 else 0
theorem placeF_is : ∀ {l : List Tx} {w : Tx}, sortedT l → isPlace l w (placeF l w)
  | [], w, _ => ⟨Nat.le_refl _, fun j hj => absurd hj (Nat.not_lt_zero _), fun j hj => absurd hj (Nat.not_lt_zero _)⟩
  | x :: r, w, h => by
    have hr := (List.pairwise_cons.1 h)
    unfold placeF
    by_cases hx : ltT x w = true
    · rw [if_pos hx]
      obtain ⟨h1, h2, h3⟩ := placeF_is (w := w) hr.2
      refine ⟨by simp only [List.length_cons]; omega, fun j hj hk => ?_, fun j hj hk => ?_⟩
      · cases j with
        | zero => exact hx
        | succ j => simp only [List.length_cons] at hj; exact h2 j (by omega) (by omega)
      · cases j with
        | zero => omega
        | succ j => simp only [List.length_cons] at hj; exact h3 j (by omega) (by omega)
    · rw [if_neg hx]
      have hxf : ltT x w = false := by simpa using hx
      refine ⟨by omega, fun j hj hk => by omega, fun j hj _ => ?_⟩
      cases j with
      | zero => exact hxf
      | succ j =>
        simp only [List.length_cons] at hj
        have h4 := hr.1 _ (List.getElem_mem (show j < r.length by omega))
        cases hc : ltT r[j] w with
        | false => exact hc
        | true => exact absurd (ltT_trans h4 hc) hx
def addF (l : List Tx) (w : Tx) : List Tx := if w ∈ l then l else putF l (placeF l w) w
theorem place_mem {l : List Tx} {w : Tx} {k : Nat} (hs : sortedT l) (h : isPlace l w k) : w ∈ l ↔ ∃ hk : k < l.length, l[k] = w := by
  constructor
  · intro hm
    obtain ⟨j, hj, e⟩ := List.getElem_of_mem hm
    have hjk : k ≤ j := by
      apply Classical.byContradiction
      intro hn
      have := h.2.1 j hj (by omega)
      rw [e, ltT_irrefl] at this; cases this
    by_cases he : k = j
    · subst he; exact ⟨hj, e⟩
    · have h1 := sortedT_at hs hj (show k < j by omega)
      have h2 := h.2.2 k (by omega) (Nat.le_refl _)
      rw [e, h2] at h1; cases h1
  · rintro ⟨hk, e⟩
    rw [← e]; exact List.getElem_mem hk
theorem addF_at {l : List Tx} {w : Tx} {k : Nat} (hs : sortedT l) (h : isPlace l w k) : addF l w = if (∃ hk : k < l.length, l[k] = w) then l else putF l k w := by
  have e := isPlace_unique h (placeF_is (w := w) hs)
  unfold addF
  rw [← e]
  by_cases hm : w ∈ l
  · rw [if_pos hm, if_pos ((place_mem hs h).1 hm)]
  · rw [if_neg hm, if_neg fun hk => hm ((place_mem hs h).2 hk)]
theorem addF_mem {l : List Tx} {w v : Tx} : v ∈ addF l w ↔ v ∈ l ∨ v = w := by
  unfold addF
  split
  · rename_i h
    constructor
    · exact .inl
    · rintro (h' | rfl)
      · exact h'
      · exact h
  · unfold putF
    have hm : v ∈ l ↔ v ∈ l.take (placeF l w) ∨ v ∈ l.drop (placeF l w) := by rw [← List.mem_append, List.take_append_drop]
    rw [hm]
    simp only [List.mem_append, List.mem_singleton]
    constructor
    · rintro ((h | h) | h)
      · exact .inl (.inl h)
      · exact .inr h
      · exact .inl (.inr h)
    · rintro ((h | h) | h)
      · exact .inl (.inl h)
      · exact .inr h
      · exact .inl (.inr h)
theorem addF_sorted {l : List Tx} (w : Tx) (hs : sortedT l) : sortedT (addF l w) := by
  have hp := placeF_is (w := w) hs
  unfold addF
  split
  · exact hs
  · rename_i hn
    unfold putF sortedT
    rw [List.append_assoc, List.pairwise_append]
    refine ⟨hs.sublist (List.take_sublist _ _), ?_, fun a ha b hb => ?_⟩
    · rw [List.singleton_append, List.pairwise_cons]
      refine ⟨fun a ha => ?_, hs.sublist (List.drop_sublist _ _)⟩
      obtain ⟨j, hj, rfl⟩ := List.getElem_of_mem ha
      rw [List.length_drop] at hj
      rw [List.getElem_drop]
      have h3 := hp.2.2 (placeF l w + j) (by omega) (by omega)
      exact ltT_total h3 fun e => hn (by rw [← e]; exact List.getElem_mem _)
    · obtain ⟨i, hi, rfl⟩ := List.getElem_of_mem ha
      rw [List.length_take] at hi
      rw [List.getElem_take]
      have h2 := hp.2.1 i (by omega) (by omega)
      rcases List.mem_append.1 hb with hb | hb
      · simp only [List.mem_singleton] at hb
        subst hb; exact h2
      · obtain ⟨j, hj, rfl⟩ := List.getElem_of_mem hb
        rw [List.length_drop] at hj
        rw [List.getElem_drop]
        exact sortedT_at hs _ (by omega)
theorem addF_ne (l : List Tx) (w : Tx) : addF l w ≠ [] := fun e => by
  have : w ∈ addF l w := addF_mem.2 (.inr rfl)
  rw [e] at this; cases this
theorem sortedT_nil : sortedT [] := List.Pairwise.nil
theorem fold_sorted : ∀ (vs : List Tx) {l : List Tx}, sortedT l → sortedT (vs.foldl addF l)
  | [], _, h => h
  | v :: vs, l, h => fold_sorted vs (addF_sorted v h)
theorem fold_mem {v : Tx} : ∀ {vs l : List Tx}, v ∈ vs.foldl addF l ↔ v ∈ l ∨ v ∈ vs
  | [], l => by simp
  | u :: vs, l => by
    rw [List.foldl_cons, fold_mem, addF_mem, List.mem_cons, or_assoc]

/-! ### Layers -/
def succF (v : Tx) : List Tx := (movesF v both).map (madeF v)
def nextF (l : List Tx) : List Tx := (l.flatMap succF).foldl addF []
def layF (w : Tx) : Nat → List Tx
  | 0 => [w]
  | k + 1 => nextF (layF w k)
def Reach (w v : Tx) : Nat → Prop
  | 0 => v = w
  | k + 1 => ∃ u, Reach w u k ∧ ∃ m ∈ movesF u both, v = madeF u m
theorem nextF_mem {l : List Tx} {v : Tx} : v ∈ nextF l ↔ ∃ u ∈ l, ∃ m ∈ movesF u both, v = madeF u m := by
  unfold nextF
  rw [fold_mem]
  simp only [List.not_mem_nil, false_or, List.mem_flatMap, succF, List.mem_map]
  constructor
  · rintro ⟨u, hu, m, hm, rfl⟩; exact ⟨u, hu, m, hm, rfl⟩
  · rintro ⟨u, hu, m, hm, rfl⟩; exact ⟨u, hu, m, hm, rfl⟩
theorem lay_mem {w : Tx} : ∀ {k : Nat} {v : Tx}, v ∈ layF w k ↔ Reach w v k
  | 0, v => by simp [layF, Reach]
  | k + 1, v => by
    rw [layF, nextF_mem, Reach]
    constructor
    · rintro ⟨u, hu, h⟩; exact ⟨u, lay_mem.1 hu, h⟩
    · rintro ⟨u, hu, h⟩; exact ⟨u, lay_mem.2 hu, h⟩
theorem lay_sorted (w : Tx) : ∀ k, sortedT (layF w k)
  | 0 => List.pairwise_singleton _ _
  | k + 1 => fold_sorted _ sortedT_nil
theorem reach_pot {w : Tx} : ∀ {k : Nat} {v : Tx}, Reach w v k → potF v + k = potF w
  | 0, v, h => by rw [show v = w from h]; omega
  | k + 1, v, ⟨u, hu, m, hm, e⟩ => by
    have h1 := reach_pot hu
    have h2 := pot_made hm
    rw [e]; omega
theorem reach_ok {w : Tx} (hok : w.all okCh = true) : ∀ {k : Nat} {v : Tx}, Reach w v k → v.all okCh = true ∧ v.length = w.length ∧ lastF v = lastF w
  | 0, v, h => by rw [show v = w from h]; exact ⟨hok, rfl, rfl⟩
  | k + 1, v, ⟨u, hu, m, hm, e⟩ => by
    obtain ⟨h1, h2, h3⟩ := reach_ok hok hu
    have h4 := movesF_in hm
    rw [e]
    exact ⟨okCh_made h1 (by omega), by rw [madeF_len]; exact h2, (lastF_made hm).trans h3⟩
theorem reach_unique {w v : Tx} {j k : Nat} (h : Reach w v j) (h' : Reach w v k) : j = k := by
  have := reach_pot h; have := reach_pot h'; omega
theorem lay_empty {w : Tx} {k : Nat} (h : potF w < k) : layF w k = [] := by
  apply List.eq_nil_iff_forall_not_mem.2
  intro v hv
  have := reach_pot (lay_mem.1 hv)
  omega
theorem nextF_nil : nextF [] = [] := rfl
theorem pot_small' {w : Tx} (h : w.length ≤ 14) : potF w ≤ 1000 := by
  have h1 := pot_le w
  have h2 := List.count_le_length (a := (84 : UInt8)) (l := w)
  have h3 := List.count_le_length (a := (46 : UInt8)) (l := w)
  have h4 : w.count 84 * (w.length - w.count 84) ≤ 14 * 14 := Nat.mul_le_mul (by omega) (by omega)
  have h5 : w.count 46 * (w.length - w.count 84 - w.count 46) ≤ 14 * 14 := Nat.mul_le_mul (by omega) (by omega)
  omega
def depthFrom (w : Tx) : Nat → Nat → Nat
  | 0, k => k
  | n + 1, k => if layF w (k + 1) = [] then k else depthFrom w n (k + 1)
theorem depthFrom_spec (w : Tx) : ∀ (n k : Nat), potF w < k + n → (∀ j, j ≤ k → layF w j ≠ []) → (∀ j, j ≤ depthFrom w n k → layF w j ≠ []) ∧ layF w (depthFrom w n k + 1) = []
  | 0, k, h, h1 => ⟨h1, lay_empty (by unfold depthFrom; omega)⟩
  | n + 1, k, h, h1 => by
    unfold depthFrom
    split
    · rename_i he; exact ⟨h1, he⟩
    · rename_i he
      exact depthFrom_spec w n (k + 1) (by omega) fun j hj => by
        by_cases e : j = k + 1
        · subst e; exact he
        · exact h1 j (by omega)
/-- The greatest number of moves. -/
def depthF (w : Tx) : Nat := depthFrom w (potF w + 1) 0
theorem depth_ne {w : Tx} {j : Nat} (h : j ≤ depthF w) : layF w j ≠ [] := (depthFrom_spec w (potF w + 1) 0 (by omega) (fun j hj => by
  have : j = 0 := by omega
  subst this; simp [layF])).1 j h
theorem depth_end (w : Tx) : layF w (depthF w + 1) = [] := (depthFrom_spec w (potF w + 1) 0 (by omega) (fun j hj => by
  have : j = 0 := by omega
  subst this; simp [layF])).2
theorem lay_after {w : Tx} {k : Nat} (h : layF w k = []) : ∀ {j : Nat}, k ≤ j → layF w j = []
  | 0, hj => by have : k = 0 := by omega
                subst this; exact h
  | j + 1, hj => by
    by_cases e : k = j + 1
    · subst e; exact h
    · rw [layF, lay_after h (j := j) (by omega)]; rfl
theorem depth_iff {w : Tx} {j : Nat} : layF w j ≠ [] ↔ j ≤ depthF w := by
  constructor
  · intro h
    apply Classical.byContradiction
    intro hn
    exact h (lay_after (depth_end w) (by omega))
  · exact depth_ne
theorem depth_pot (w : Tx) : depthF w ≤ potF w := by
  obtain ⟨v, hv⟩ := List.exists_mem_of_ne_nil _ (depth_ne (Nat.le_refl (depthF w)))
  have := reach_pot (lay_mem.1 hv)
  omega
def layersTo (w : Tx) (n : Nat) : List (List Tx) := (List.range n).map (layF w)
def layersF (w : Tx) : List (List Tx) := layersTo w (depthF w + 1)
theorem layersTo_len (w : Tx) (n : Nat) : (layersTo w n).length = n := by simp [layersTo]
theorem layersTo_get {w : Tx} {n k : Nat} (h : k < n) : (layersTo w n)[k]? = some (layF w k) := by simp [layersTo, h]
theorem layersTo_succ (w : Tx) (n : Nat) : layersTo w (n + 1) = layersTo w n ++ [layF w n] := by simp [layersTo, List.range_succ]

/-- After how many moves a line is reached, or -1. -/
def afterF (w v : Tx) : Int := match (List.range (depthF w + 1)).find? (fun k => decide (v ∈ layF w k)) with
  | some k => (k : Int)
  | none => -1
theorem after_some {w v : Tx} {k : Nat} (h : Reach w v k) : afterF w v = k := by
  have hm := lay_mem.2 h
  have hk : k ≤ depthF w := depth_iff.1 fun e => by rw [e] at hm; cases hm
  unfold afterF
  cases hf : (List.range (depthF w + 1)).find? (fun k => decide (v ∈ layF w k)) with
  | none =>
    rw [List.find?_eq_none] at hf
    exact absurd (decide_eq_true hm) (hf k (List.mem_range.2 (by omega)))
  | some j =>
    have := List.find?_some hf
    rw [decide_eq_true_eq] at this
    rw [reach_unique (lay_mem.1 this) h]
theorem after_none {w v : Tx} (h : ∀ k, ¬ Reach w v k) : afterF w v = -1 := by
  unfold afterF
  cases hf : (List.range (depthF w + 1)).find? (fun k => decide (v ∈ layF w k)) with
  | none => rfl
  | some j =>
    have := List.find?_some hf
    rw [decide_eq_true_eq] at this
    exact absurd (lay_mem.1 this) (h j)
theorem after_cases (w v : Tx) : (∃ k : Nat, Reach w v k ∧ afterF w v = k) ∨ ((∀ k, ¬ Reach w v k) ∧ afterF w v = -1) := by
  by_cases h : ∃ k, Reach w v k
  · obtain ⟨k, hk⟩ := h
    exact .inl ⟨k, hk, after_some hk⟩
  · have h' : ∀ k, ¬ Reach w v k := fun k hk => h ⟨k, hk⟩
    exact .inr ⟨h', after_none h'⟩
theorem reach_depth {w v : Tx} {k : Nat} (h : Reach w v k) : k ≤ depthF w := depth_iff.1 fun e => by
  have := lay_mem.2 h
  rw [e] at this; cases this
/-- Few lines: a layer is small. -/
theorem lay_few {w : Tx} (hok : w.all okCh = true) (hl : w.length ≤ 14) (k : Nat) : (layF w k).length ≤ 4398046511104 :=
  few_keys (sortedT_nodup (lay_sorted w k)) fun s hs => by
    obtain ⟨h1, h2, _⟩ := reach_ok hok (lay_mem.1 hs)
    exact ⟨by omega, fun c hc => okCh_okK (List.all_eq_true.1 h1 c hc)⟩
end Go.Proofs.YtblihaicbhdbdaaDoor.X
