/- The reference's memo of games: its keys are few. No condition. -/
import Derived.Test.YtaidpalamhmghaaDoorWinF
namespace Go.Proofs.YtaidpalamhmghaaDoor.X
set_option linter.unusedVariables false
set_option linter.unusedSimpArgs false

theorem few_nats : ∀ {N : Nat} {l : List Nat}, l.Nodup → (∀ x ∈ l, x < N) → l.length ≤ N
  | 0, l, _, h => by
    cases l with
    | nil => simp
    | cons x l => exact absurd (h x List.mem_cons_self) (Nat.not_lt_zero _)
  | N + 1, l, hn, h => by
    have h1 := few_nats (N := N) (l := l.filter fun x => decide (x ≠ N)) (hn.filter _) (fun x hx => by
      simp only [List.mem_filter, decide_eq_true_eq] at hx
      have := h x hx.1
      omega)
    have h2 : l.count N ≤ 1 := List.nodup_iff_count.1 hn N
    have h3 := List.length_eq_countP_add_countP (l := l) (p := fun x => decide (x ≠ N))
    rw [List.countP_eq_length_filter] at h3
    have h4 : l.countP (fun a => decide ¬ ((decide (a ≠ N)) = true)) = l.count N := by
      unfold List.count
      refine List.countP_congr fun x hx => ?_
      simp
    rw [h4] at h3
    omega

def dig (c : UInt8) : Nat := if c = 84 then 1 else if c = 70 then 2 else if c = 46 then 3 else if c = 47 then 4 else if c = 116 then 5 else 6
def okK (c : UInt8) : Prop := c = 84 ∨ c = 70 ∨ c = 46 ∨ c = 47 ∨ c = 116 ∨ c = 102
def codeS : Tx → Nat
  | [] => 0
  | c :: s => 8 * codeS s + dig c
theorem dig_lt (c : UInt8) : 1 ≤ dig c ∧ dig c < 8 := by unfold dig; repeat' split
                                                         all_goals omega
theorem dig_inj {c d : UInt8} (hc : okK c) (hd : okK d) (h : dig c = dig d) : c = d := by
  rcases hc with rfl | rfl | rfl | rfl | rfl | rfl <;> rcases hd with rfl | rfl | rfl | rfl | rfl | rfl <;> first | rfl | (revert h; decide)
theorem codeS_inj : ∀ {s s' : Tx}, (∀ c ∈ s, okK c) → (∀ c ∈ s', okK c) → codeS s = codeS s' → s = s'
  | [], [], _, _, _ => rfl
  | [], c :: s, _, _, h => by have := dig_lt c; simp only [codeS] at h; omega
  | c :: s, [], _, _, h => by have := dig_lt c; simp only [codeS] at h; omega
  | c :: s, d :: s', h1, h2, h => by
    have e1 := dig_lt c
    have e2 := dig_lt d
    simp only [codeS] at h
    have e3 : dig c = dig d := by omega
    have e4 : codeS s = codeS s' := by omega
    rw [dig_inj (h1 c List.mem_cons_self) (h2 d List.mem_cons_self) e3, codeS_inj (fun x hx => h1 x (List.mem_cons_of_mem _ hx)) (fun x hx => h2 x (List.mem_cons_of_mem _ hx)) e4]
theorem codeS_lt : ∀ (s : Tx), codeS s < 8 ^ s.length
  | [] => by simp [codeS]
  | c :: s => by
    have := codeS_lt s
    have h2 := dig_lt c
    simp only [codeS, List.length_cons, Nat.pow_succ]
    omega
theorem few_keys {l : List Tx} (hn : l.Nodup) (h : ∀ s ∈ l, s.length ≤ 14 ∧ ∀ c ∈ s, okK c) : l.length ≤ 4398046511104 := by
  have h1 : (l.map codeS).Nodup := by
    rw [List.Nodup, List.pairwise_map]
    refine List.Pairwise.imp_of_mem ?_ hn
    intro a b ha hb hab e
    exact hab (codeS_inj (h a ha).2 (h b hb).2 e)
  have h2 := few_nats (N := 4398046511104) h1 (fun x hx => by
    obtain ⟨s, hs, rfl⟩ := List.mem_map.1 hx
    have h3 := codeS_lt s
    have h4 : 8 ^ s.length ≤ 8 ^ 14 := Nat.pow_le_pow_right (by omega) (h s hs).1
    have h5 : (8 : Nat) ^ 14 = 4398046511104 := by decide
    omega)
  simpa using h2

def sumF (ls : List Tx) : Nat := (ls.map List.length).sum
def okLs (ls : List Tx) : Prop := (∀ w ∈ ls, w.all okCh = true) ∧ sumF ls ≤ 10 ∧ ls.length ≤ 3
theorem keyF_ok {t : Bool} {ls : List Tx} (h : okLs ls) : (keyF t ls).length ≤ 14 ∧ ∀ c ∈ keyF t ls, okK c := by
  constructor
  · have : ∀ l : List Tx, (l.flatMap fun w => (47 : UInt8) :: w).length = sumF l + l.length := by
      intro l
      induction l with
      | nil => rfl
      | cons a l ih => simp only [List.flatMap_cons, List.length_append, ih, List.length_cons, sumF, List.map_cons, List.sum_cons]; omega
    unfold keyF
    rw [List.length_cons, this]
    have := h.2.1
    have := h.2.2
    omega
  · intro c hc
    unfold keyF at hc
    rcases List.mem_cons.1 hc with rfl | hc
    · cases t
      · exact .inr (.inr (.inr (.inr (.inr rfl))))
      · exact .inr (.inr (.inr (.inr (.inl rfl))))
    · obtain ⟨w, hw, hc⟩ := List.mem_flatMap.1 hc
      rcases List.mem_cons.1 hc with rfl | hc
      · exact .inr (.inr (.inr (.inl rfl)))
      · have := List.all_eq_true.1 (h.1 w hw) c hc
        simp only [okCh, Bool.or_eq_true, decide_eq_true_eq] at this
        rcases this with h | h | h
        · exact .inl h
        · exact .inr (.inl h)
        · exact .inr (.inr (.inl h))

theorem sumF_set : ∀ {ls : List Tx} {k : Nat} {w : Tx} (h : k < ls.length), w.length = ls[k].length → sumF (ls.set k w) = sumF ls
  | a :: ls, 0, w, h, e => by simp [sumF] at e ⊢; omega
  | a :: ls, k + 1, w, h, e => by
    have := sumF_set (ls := ls) (k := k) (w := w) (by simpa using h) (by simpa using e)
    simp only [List.set_cons_succ, sumF, List.map_cons, List.sum_cons] at this ⊢
    omega
theorem okLs_set {ls : List Tx} {k : Nat} {w : Tx} (h : okLs ls) (hk : k < ls.length) (hl : w.length = ls[k].length) (hw : w.all okCh = true) : okLs (ls.set k w) := by
  refine ⟨fun v hv => ?_, by rw [sumF_set hk hl]; exact h.2.1, by simpa using h.2.2⟩
  rcases List.mem_or_eq_of_mem_set hv with hv | rfl
  · exact h.1 v hv
  · exact hw
theorem sumF_mem : ∀ {ls : List Tx} {w : Tx}, w ∈ ls → w.length ≤ sumF ls
  | a :: ls, w, h => by
    rcases List.mem_cons.1 h with rfl | h
    · simp [sumF]
    · have := sumF_mem h
      simp only [sumF, List.map_cons, List.sum_cons] at this ⊢; omega

/-! ### What the memo knows -/
abbrev Kn := List Tx × List Bool
def okKn (x : Kn) : Prop := x.1.length = x.2.length ∧ x.1.Nodup ∧ ∀ i (h : i < x.1.length), ∃ t ls, okLs ls ∧ x.1[i] = keyF t ls ∧ x.2[i]? = some (winF (joinF ls) t)
/-- What has been added: positions with less way than n. -/
def Added (x0 : Kn) (n : Nat) (x : Kn) : Prop := ∀ k ∈ x.1, k ∈ x0.1 ∨ ∃ t ls, okLs ls ∧ k = keyF t ls ∧ wayF (joinF ls) < n
theorem okKn_nil : okKn ([], []) := ⟨rfl, List.nodup_nil, fun i h => absurd h (Nat.not_lt_zero _)⟩
theorem okKn_few {x : Kn} (h : okKn x) : x.1.length ≤ 4398046511104 ∧ x.2.length ≤ 4398046511104 := by
  have h1 := few_keys h.2.1 (fun s hs => by
    obtain ⟨i, hi, rfl⟩ := List.getElem_of_mem hs
    obtain ⟨t, ls, h1, h2, _⟩ := h.2.2 i hi
    rw [h2]; exact keyF_ok h1)
  exact ⟨h1, h.1 ▸ h1⟩
theorem okKn_get {x : Kn} {t : Bool} {ls : List Tx} {i : Nat} (h : okKn x) (hls : okLs ls) (hi : i < x.1.length) (he : x.1[i] = keyF t ls) : x.2[i]? = some (winF (joinF ls) t) := by
  obtain ⟨t', ls', h1, h2, h3⟩ := h.2.2 i hi
  obtain ⟨rfl, rfl⟩ := key_inj h1.1 hls.1 (h2.symm.trans he)
  exact h3
theorem Added.refl (x : Kn) (n : Nat) : Added x n x := fun k h => .inl h
theorem Added.trans {x y z : Kn} {n m : Nat} (hm : m ≤ n) (h1 : Added x n y) (h2 : Added y m z) : Added x n z := fun k hk => by
  rcases h2 k hk with h | ⟨t, ls, a, b, c⟩
  · exact h1 k h
  · exact .inr ⟨t, ls, a, b, by omega⟩
theorem okKn_add {x0 x : Kn} {t : Bool} {ls : List Tx} (h : okKn x) (hls : okLs ls) (ha : Added x0 (wayF (joinF ls)) x) (hno : keyF t ls ∉ x0.1) : okKn (x.1 ++ [keyF t ls], x.2 ++ [winF (joinF ls) t]) := by
  refine ⟨by simp [h.1], ?_, fun i hi => ?_⟩
  · rw [List.nodup_append]
    refine ⟨h.2.1, by simp, fun a ha' b hb => ?_⟩
    simp only [List.mem_singleton] at hb
    subst hb
    intro e
    subst e
    rcases ha _ ha' with h1 | ⟨t', ls', h1, h2, h3⟩
    · exact hno h1
    · obtain ⟨rfl, rfl⟩ := key_inj hls.1 h1.1 h2
      omega
  · by_cases hlt : i < x.1.length
    · obtain ⟨t', ls', h1, h2, h3⟩ := h.2.2 i hlt
      refine ⟨t', ls', h1, ?_, ?_⟩
      · simp only [List.getElem_append_left hlt]; exact h2
      · rw [List.getElem?_append_left (by rw [← h.1]; exact hlt)]; exact h3
    · have : i = x.1.length := by simp at hi; omega
      subst this
      refine ⟨t, ls, hls, by simp, ?_⟩
      simp only [h.1]
      simp
theorem Added_add {x0 x : Kn} {t : Bool} {ls : List Tx} (hls : okLs ls) (ha : Added x0 (wayF (joinF ls)) x) : Added x0 (wayF (joinF ls) + 1) (x.1 ++ [keyF t ls], x.2 ++ [winF (joinF ls) t]) := fun k hk => by
  rcases List.mem_append.1 hk with hk | hk
  · rcases ha k hk with h | ⟨t', ls', a, b, c⟩
    · exact .inl h
    · exact .inr ⟨t', ls', a, b, by omega⟩
  · simp only [List.mem_singleton] at hk
    exact .inr ⟨t, ls, hls, hk, by omega⟩
end Go.Proofs.YtaidpalamhmghaaDoor.X
