/- Plays from a line to another one: how many there are, and that few lines have few. No condition. -/
import Derived.Test.YtaidpalamhmghaaDoorPotF
import Derived.Test.YtaidpalamhmghaaDoorBoardF
import Derived.Test.YtaidpalamhmghaaDoorKeyF
namespace Go.Proofs.YtaidpalamhmghaaDoor.X
set_option linter.unusedVariables false
set_option linter.unusedSimpArgs false

/-! ### Whole numbers of 64 bits -/
theorem wrap64 (n : Int) : IntKind.i64.wrap n = if n % 18446744073709551616 ≥ 9223372036854775808 then n % 18446744073709551616 - 18446744073709551616 else n % 18446744073709551616 := by
  unfold IntKind.wrap
  simp [IntKind.signed, IntKind.bits]
theorem wrap_id {n : Int} (h : -9223372036854775808 ≤ n ∧ n ≤ 9223372036854775807) : IntKind.i64.wrap n = n := by
  rw [wrap64]
  split <;> omega
theorem wrap_add (a b : Int) : IntKind.i64.wrap (IntKind.i64.wrap a + IntKind.i64.wrap b) = IntKind.i64.wrap (a + b) := by
  rw [wrap64, wrap64 a, wrap64 b, wrap64 (a + b)]
  split <;> split <;> split <;> split <;> omega

/-! ### Last lines -/
def lastF (w : Tx) : Tx := rep [70] (w.count 70) ++ rep [46] (w.count 46) ++ rep [84] (w.count 84)
def firstF (x y z : Nat) : Tx := rep [84] x ++ rep [46] y ++ rep [70] z
theorem rep_one (b : UInt8) (n : Nat) : rep [b] n = List.replicate n b := by
  unfold rep
  induction n with
  | zero => rfl
  | succ n ih => rw [List.replicate_succ, List.flatten_cons, ih, List.replicate_succ]; rfl
theorem firstF_len (x y z : Nat) : (firstF x y z).length = x + y + z := by simp [firstF, rep_one]; omega
theorem firstF_ok (x y z : Nat) : (firstF x y z).all okCh = true := by
  rw [List.all_eq_true]
  intro b hb
  simp only [firstF, rep_one, List.mem_append, List.mem_replicate] at hb
  rcases hb with (⟨_, rfl⟩ | ⟨_, rfl⟩) | ⟨_, rfl⟩ <;> rfl
theorem lastF_len (w : Tx) : (lastF w).length = w.count 70 + w.count 46 + w.count 84 := by simp [lastF, rep_one]; omega
theorem count3_le : ∀ (w : Tx), w.count 70 + w.count 46 + w.count 84 ≤ w.length
  | [] => by simp
  | b :: w => by
    have ih := count3_le w
    simp only [List.count_cons, List.length_cons]
    by_cases e : b = 84
    · subst e; simp; omega
    · by_cases e2 : b = 46
      · subst e2; simp; omega
      · have e3 : (b == 84) = false := by simp [e]
        have e4 : (b == 46) = false := by simp [e2]
        rw [e3, e4]; simp only [Bool.false_eq_true, if_false]; split <;> omega
theorem lastF_made {w kinds : Tx} {m : Mv} (h : m ∈ movesF w kinds) : lastF (madeF w m) = lastF w := by
  unfold lastF; rw [count_made h, count_made h, count_made h]

/-! ### Plays -/
abbrev both : Tx := [84, 70]
def playsF (g w : Tx) : Nat := if w = g then 1 else ((movesF w both).attach.map fun m => playsF g (madeF w m.1)).sum
termination_by wayF w
decreasing_by exact way_made m.2
def playsTo (g w : Tx) (k : Nat) : Nat := (((movesF w both).take k).map fun m => playsF g (madeF w m)).sum
theorem playsF_eq (g w : Tx) : playsF g w = if w = g then 1 else ((movesF w both).map fun m => playsF g (madeF w m)).sum := by
  rw [playsF]
  split
  · rfl
  · congr 1
    exact List.attach_map_val (f := fun m => playsF g (madeF w m)) (l := movesF w both)
theorem playsF_self (g : Tx) : playsF g g = 1 := by rw [playsF_eq, if_pos rfl]
theorem playsTo_zero (g w : Tx) : playsTo g w 0 = 0 := by simp [playsTo]
theorem playsTo_succ (g w : Tx) {k : Nat} (h : k < (movesF w both).length) : playsTo g w (k + 1) = playsTo g w k + playsF g (madeF w (movesF w both)[k]) := by
  unfold playsTo
  rw [List.take_succ_eq_append_getElem h, List.map_append, List.sum_append]
  simp
theorem playsTo_end {g w : Tx} (hne : w ≠ g) {k : Nat} (h : (movesF w both).length ≤ k) : playsTo g w k = playsF g w := by
  unfold playsTo
  rw [List.take_of_length_le h, playsF_eq, if_neg hne]
theorem sum_take_le (l : List Nat) (k : Nat) : (l.take k).sum ≤ l.sum := by
  have : l.sum = (l.take k).sum + (l.drop k).sum := by rw [← List.sum_append, List.take_append_drop]
  omega
theorem playsTo_le {g w : Tx} (hne : w ≠ g) (k : Nat) : playsTo g w k ≤ playsF g w := by
  unfold playsTo
  rw [playsF_eq, if_neg hne, List.map_take]
  exact sum_take_le _ _
theorem sum_le_mul {α : Type} (f : α → Nat) (b : Nat) : ∀ (l : List α), (∀ x ∈ l, f x ≤ b) → (l.map f).sum ≤ l.length * b
  | [], _ => by simp
  | x :: l, h => by
    have h1 := sum_le_mul f b l fun y hy => h y (List.mem_cons_of_mem _ hy)
    have h2 := h x List.mem_cons_self
    simp only [List.map_cons, List.sum_cons, List.length_cons, Nat.succ_mul]
    omega
theorem playsF_pow (g : Tx) : ∀ (n : Nat) (w : Tx), potF w = n → w.length ≤ 8 → playsF g w ≤ 7 ^ n
  | n, w, hn, hl => by
    rw [playsF_eq]
    split
    · exact Nat.one_le_pow _ _ (by decide)
    · cases n with
      | zero =>
        cases hm : movesF w both with
        | nil => simp
        | cons m l =>
          have := pot_made (w := w) (kinds := both) (m := m) (by rw [hm]; exact List.mem_cons_self)
          omega
      | succ n =>
        have h1 := sum_le_mul (fun m => playsF g (madeF w m)) (7 ^ n) (movesF w both) fun m hm => by
          have := pot_made hm
          exact playsF_pow g n (madeF w m) (by omega) (by rw [madeF_len]; exact hl)
        refine Nat.le_trans h1 ?_
        rw [Nat.pow_succ, Nat.mul_comm]
        refine Nat.mul_le_mul_left _ ?_
        have h2 := moves_le w both
        by_cases h3 : 0 < (movesF w both).length
        · have := moves_gap h3; omega
        · omega
theorem playsF_few {g w : Tx} (h : w.length ≤ 8) : playsF g w ≤ 558545864083284007 := by
  have h1 := playsF_pow g _ w rfl h
  have h2 : 7 ^ potF w ≤ 7 ^ 21 := Nat.pow_le_pow_right (by decide) (pot8 h)
  omega
theorem playsF_pos {g w : Tx} (hne : w ≠ g) : 0 < playsF g w ↔ ∃ m ∈ movesF w both, 0 < playsF g (madeF w m) := by
  rw [playsF_eq, if_neg hne, ← Nat.ne_zero_iff_zero_lt, ne_eq, List.sum_eq_zero_iff_forall_eq_nat]
  simp only [List.mem_map, forall_exists_index, and_imp, forall_apply_eq_imp_iff₂]
  constructor
  · intro h
    apply Classical.byContradiction
    intro hn
    exact h fun m hm => by
      apply Classical.byContradiction
      intro h0
      exact hn ⟨m, hm, by omega⟩
  · rintro ⟨m, hm, h0⟩ h
    have := h m hm
    omega

/-- How many plays there are, as a number of 64 bits. -/
def wp (g w : Tx) : Int := IntKind.i64.wrap (playsF g w : Nat)
def wpTo (g w : Tx) (k : Nat) : Int := IntKind.i64.wrap (playsTo g w k : Nat)
theorem wp_few {g w : Tx} (h : w.length ≤ 8) : wp g w = (playsF g w : Nat) := wrap_id (by have := playsF_few (g := g) h; omega)
theorem wp_self (g : Tx) : wp g g = 1 := by unfold wp; rw [playsF_self]; exact wrap_id (by omega)
theorem wpTo_zero (g w : Tx) : wpTo g w 0 = 0 := by unfold wpTo; rw [playsTo_zero]; exact wrap_id (by omega)
theorem wpTo_succ (g w : Tx) {k : Nat} (h : k < (movesF w both).length) : wpTo g w (k + 1) = IntKind.i64.wrap (wpTo g w k + wp g (madeF w (movesF w both)[k])) := by
  unfold wpTo wp
  rw [wrap_add, playsTo_succ g w h, Int.natCast_add]
theorem wpTo_end {g w : Tx} (hne : w ≠ g) {k : Nat} (h : (movesF w both).length ≤ k) : wpTo g w k = wp g w := by unfold wpTo wp; rw [playsTo_end hne h]

/-! ### The reference's memo -/
abbrev Wy := List Tx × List Int
def okEn (x : Wy) : Prop := x.1.length = x.2.length ∧ x.1.Nodup ∧ ∀ i (h : i < x.1.length), (x.1[i].length ≤ 14 ∧ x.1[i].all okCh = true) ∧ x.2[i]? = some (wp (lastF x.1[i]) x.1[i])
/-- What has been added: lines with less way than n. -/
def AddE (x0 : Wy) (n : Nat) (x : Wy) : Prop := ∀ k ∈ x.1, k ∈ x0.1 ∨ wayF k < n
theorem okEn_nil : okEn ([], []) := ⟨rfl, List.nodup_nil, fun i h => absurd h (Nat.not_lt_zero _)⟩
theorem okCh_okK {c : UInt8} (h : okCh c = true) : okK c := by
  simp only [okCh, Bool.or_eq_true, decide_eq_true_eq] at h
  rcases h with h | h | h
  · exact .inl h
  · exact .inr (.inl h)
  · exact .inr (.inr (.inl h))
theorem okEn_few {x : Wy} (h : okEn x) : x.1.length ≤ 4398046511104 ∧ x.2.length ≤ 4398046511104 := by
  have h1 := few_keys h.2.1 (fun s hs => by
    obtain ⟨i, hi, rfl⟩ := List.getElem_of_mem hs
    obtain ⟨⟨h1, h2⟩, _⟩ := h.2.2 i hi
    exact ⟨h1, fun c hc => okCh_okK (List.all_eq_true.1 h2 c hc)⟩)
  exact ⟨h1, h.1 ▸ h1⟩
theorem AddE.refl (x : Wy) (n : Nat) : AddE x n x := fun k h => .inl h
theorem AddE.trans {x y z : Wy} {n m : Nat} (hm : m ≤ n) (h1 : AddE x n y) (h2 : AddE y m z) : AddE x n z := fun k hk => by
  rcases h2 k hk with h | h
  · exact h1 k h
  · exact .inr (by omega)
theorem okEn_add {x0 x : Wy} {w : Tx} (h : okEn x) (hl : w.length ≤ 14) (hok : w.all okCh = true) (ha : AddE x0 (wayF w) x) (hno : w ∉ x0.1) : okEn (x.1 ++ [w], x.2 ++ [wp (lastF w) w]) ∧ AddE x0 (wayF w + 1) (x.1 ++ [w], x.2 ++ [wp (lastF w) w]) := by
  refine ⟨⟨by simp [h.1], ?_, fun i hi => ?_⟩, fun k hk => ?_⟩
  · rw [List.nodup_append]
    refine ⟨h.2.1, by simp, fun a ha' b hb => ?_⟩
    simp only [List.mem_singleton] at hb
    subst hb
    intro e
    subst e
    rcases ha _ ha' with h1 | h1
    · exact hno h1
    · omega
  · by_cases hlt : i < x.1.length
    · obtain ⟨h1, h2⟩ := h.2.2 i hlt
      simp only [List.getElem_append_left hlt]
      refine ⟨h1, ?_⟩
      rw [List.getElem?_append_left (by rw [← h.1]; exact hlt)]; exact h2
    · have : i = x.1.length := by simp at hi; omega
      subst this
      simp only [List.getElem_concat_length]
      refine ⟨⟨hl, hok⟩, ?_⟩
      rw [h.1]; simp
  · rcases List.mem_append.1 hk with hk | hk
    · rcases ha k hk with h | h
      · exact .inl h
      · exact .inr (by omega)
    · simp only [List.mem_singleton] at hk
      subst hk
      exact .inr (by omega)

/-! ### Live moves; exchanges -/
def liveF (g w : Tx) : List Mv := (movesF w both).filter fun m => !decide (wp g (madeF w m) = 0)
def pickF (last : Bool) (l : List Mv) : Option Mv := if last then l.getLast? else l.head?
theorem pickF_mem {last : Bool} {l : List Mv} {m : Mv} (h : pickF last l = some m) : m ∈ l := by
  unfold pickF at h
  cases last
  · exact List.mem_of_mem_head? h
  · exact List.mem_of_getLast? h
theorem liveF_mem {g w : Tx} {m : Mv} (h : m ∈ liveF g w) : m ∈ movesF w both ∧ wp g (madeF w m) ≠ 0 := by
  unfold liveF at h
  rw [List.mem_filter] at h
  exact ⟨h.1, by simpa using h.2⟩
def exchF (last : Bool) (g w : Tx) : List Mv := if w = g then [] else match h : pickF last (liveF g w) with
  | none => []
  | some m => m :: exchF last g (madeF w m)
termination_by wayF w
decreasing_by exact way_made (liveF_mem (pickF_mem h)).1
theorem exchF_self (last : Bool) (g : Tx) : exchF last g g = [] := by rw [exchF, if_pos rfl]
theorem exchF_step {last : Bool} {g w : Tx} {m : Mv} (hne : w ≠ g) (h : pickF last (liveF g w) = some m) : exchF last g w = m :: exchF last g (madeF w m) := by
  rw [exchF, if_neg hne]
  split
  · rename_i h'; rw [h] at h'; cases h'
  · rename_i m' h'
    rw [h] at h'
    obtain rfl := Option.some.inj h'
    rfl
theorem exchF_len (last : Bool) (g : Tx) : ∀ (n : Nat) (w : Tx), wayF w = n → (exchF last g w).length ≤ n
  | n, w, hn => by
    rw [exchF]
    split
    · simp
    · split
      · simp
      · rename_i m h
        have h1 := way_made (liveF_mem (pickF_mem h)).1
        have h2 := exchF_len last g (wayF (madeF w m)) (madeF w m) rfl
        simp only [List.length_cons]
        omega
termination_by n => n
decreasing_by omega
theorem live_some {last : Bool} {g w : Tx} (hl : w.length ≤ 8) (hne : w ≠ g) (h : 0 < wp g w) : ∃ m, pickF last (liveF g w) = some m ∧ m ∈ movesF w both ∧ 0 < wp g (madeF w m) := by
  rw [wp_few hl] at h
  obtain ⟨m, hm, hp⟩ := (playsF_pos hne).1 (by omega : 0 < playsF g w)
  have hin : m ∈ liveF g w := by
    unfold liveF
    rw [List.mem_filter]
    refine ⟨hm, ?_⟩
    rw [wp_few (by rw [madeF_len]; exact hl)]
    simp; omega
  have hne2 : liveF g w ≠ [] := fun e => by rw [e] at hin; cases hin
  obtain ⟨m', hm'⟩ : ∃ m', pickF last (liveF g w) = some m' := by
    unfold pickF
    cases last
    · exact ⟨_, List.head?_eq_some_head hne2⟩
    · exact ⟨_, List.getLast?_eq_some_getLast hne2⟩
  obtain ⟨h1, h2⟩ := liveF_mem (pickF_mem hm')
  refine ⟨m', hm', h1, ?_⟩
  rw [wp_few (by rw [madeF_len]; exact hl)] at h2 ⊢
  omega
end Go.Proofs.YtaidpalamhmghaaDoor.X
