/- The queue of live lines: what it has found; how many there are. No condition. -/
import Derived.Test.YtblihaicbhdbdaaLiveF
import Derived.Test.YtblihaicbhdbdaaBfsF
namespace Go.Proofs.Ytblihaicbhdbdaa.X
set_option linter.unusedVariables false
set_option linter.unusedSimpArgs false

theorem same_len {l d : List Tx} (hl : l.Nodup) (hd : d.Nodup) (h : ∀ v, v ∈ l ↔ v ∈ d) : l.length = d.length := by
  have e : ∀ l : List Tx, (l.map fun _ => 1).sum = l.length := fun l => by
    induction l with
    | nil => rfl
    | cons a l ih => rw [List.map_cons, List.sum_cons, ih, List.length_cons]; omega
  have h1 := sum_group (fun _ => 1) d hd l fun u hu => (h u).1 hu
  rw [e] at h1
  rw [h1, ← e d]
  congr 1
  refine List.map_congr_left fun v hv => ?_
  rw [hl.count, if_pos ((h v).2 hv)]
def allL (f : Tx) (n : Nat) : List Tx := (List.range n).flatMap (layL f)
theorem allL_succ (f : Tx) (n : Nat) : allL f (n + 1) = allL f n ++ layL f n := by simp [allL, List.range_succ]
theorem allL_mem {f v : Tx} {n : Nat} : v ∈ allL f n ↔ ∃ k, k < n ∧ v ∈ layL f k := by simp [allL]
theorem allL_nodup (f : Tx) : ∀ n, (allL f n).Nodup
  | 0 => List.nodup_nil
  | n + 1 => by
    rw [allL_succ, List.nodup_append]
    refine ⟨allL_nodup f n, layL_nodup f n, fun a ha b hb e => ?_⟩
    subst e
    obtain ⟨k, hk, h⟩ := allL_mem.1 ha
    have h1 := reach_pot (layL_reach h)
    have h2 := reach_pot (layL_reach hb)
    omega
def sumL (f : Tx) (n : Nat) : Nat := (allL f n).length
theorem sumL_succ (f : Tx) (n : Nat) : sumL f (n + 1) = sumL f n + (layL f n).length := by unfold sumL; rw [allL_succ, List.length_append]
structure BfsL (w : Tx) (ks Q : List Tx) : Prop where
  nodup : ks.Nodup
  found : ∀ v ∈ ks, ∃ k, v ∈ layL w k
  start : w ∈ ks
  sub : ∀ v ∈ Q, v ∈ ks
  done : ∀ v ∈ ks, v ∉ Q → ∀ m ∈ movesF v both, liveT (madeF v m) = true → madeF v m ∈ ks
theorem bfsL_start (w : Tx) : BfsL w [w] [w] := ⟨by simp, fun v hv => by simp at hv; subst hv; exact ⟨0, by simp [layL]⟩, by simp, fun v hv => hv, fun v hv hn => absurd hv hn⟩
theorem bfsL_all {w : Tx} (hw : w.length ≤ 8) (hok : w.all okCh = true) (hl : liveT w = true) {ks : List Tx} (h : BfsL w ks []) {v : Tx} : v ∈ ks ↔ ∃ k, v ∈ layL w k := by
  refine ⟨h.found v, ?_⟩
  rintro ⟨k, hk⟩
  induction k generalizing v with
  | zero =>
    have : v = w := by simpa [layL] using hk
    rw [this]; exact h.start
  | succ k ih =>
    obtain ⟨⟨u, hu, m, hm, rfl⟩, hv⟩ := (layL_mem hw hok hl).1 hk
    have hul : u.length ≤ 8 := by obtain ⟨_, h2, _⟩ := reach_ok hok hu; omega
    exact h.done u (ih ((layL_mem hw hok hl).2 ⟨hu, live_back hul hm hv⟩)) (by simp) m hm hv
theorem bfsL_len {w : Tx} (hw : w.length ≤ 8) (hok : w.all okCh = true) (hl : liveT w = true) {ks : List Tx} (h : BfsL w ks []) {n : Nat} (hn : layL w n = []) : ks.length = sumL w n := by
  refine same_len h.nodup (allL_nodup w n) fun v => ?_
  rw [bfsL_all hw hok hl h, allL_mem]
  constructor
  · rintro ⟨k, hk⟩
    refine ⟨k, ?_, hk⟩
    apply Classical.byContradiction
    intro hc
    rw [layL_stop hn (by omega)] at hk
    cases hk
  · rintro ⟨k, _, hk⟩
    exact ⟨k, hk⟩
theorem layL_step {w v : Tx} {k : Nat} {m : Mv} (h : v ∈ layL w k) (hm : m ∈ movesF v both) (hl : liveT (madeF v m) = true) : madeF v m ∈ layL w (k + 1) := by
  show madeF v m ∈ ((layL w k).flatMap succF).foldl addX []
  rw [foldX_mem]
  exact .inr ⟨List.mem_flatMap.2 ⟨v, h, List.mem_map.2 ⟨m, hm, rfl⟩⟩, hl⟩
theorem liveF_iff {v : Tx} (h : v.length ≤ 8) {m : Mv} : m ∈ liveF (lastF v) v ↔ m ∈ movesF v both ∧ liveT (madeF v m) = true := by
  unfold liveF liveT
  rw [List.mem_filter]
  refine and_congr_right fun hm => ?_
  rw [lastF_made hm]
  have hn : 0 ≤ wp (lastF v) (madeF v m) := by rw [wp_few (by rw [madeF_len]; exact h)]; omega
  simp only [Bool.not_eq_true', decide_eq_false_iff_not, decide_eq_true_eq]
  omega
/-- In the midst of a line's live moves. -/
structure BfsLM (w : Tx) (ks : List Tx) (v : Tx) (R : List Tx) (l : List Mv) (j : Nat) : Prop where
  b : BfsL w ks (v :: R)
  seen : ∀ i (hi : i < l.length), i < j → madeF v l[i] ∈ ks
theorem bfsLM_start {w : Tx} {ks : List Tx} {v : Tx} {R : List Tx} (l : List Mv) (h : BfsL w ks (v :: R)) : BfsLM w ks v R l 0 := ⟨h, fun i hi h => absurd h (Nat.not_lt_zero _)⟩
theorem bfsLM_old {w : Tx} {ks : List Tx} {v : Tx} {R : List Tx} {l : List Mv} {j : Nat} (h : BfsLM w ks v R l j) (hj : j < l.length) (hm : madeF v l[j] ∈ ks) : BfsLM w ks v R l (j + 1) :=
  ⟨h.b, fun i hi hij => by
    by_cases e : i = j
    · subst e; exact hm
    · exact h.seen i hi (by omega)⟩
theorem bfsLM_new {w : Tx} {ks : List Tx} {v : Tx} {R : List Tx} {l : List Mv} {j : Nat} (hl : ∀ m ∈ l, m ∈ movesF v both ∧ liveT (madeF v m) = true) (h : BfsLM w ks v R l j) (hj : j < l.length) (hm : madeF v l[j] ∉ ks) :
    BfsLM w (ks ++ [madeF v l[j]]) v (R ++ [madeF v l[j]]) l (j + 1) := by
  refine ⟨⟨?_, fun u hu => ?_, List.mem_append_left _ h.b.start, fun u hu => ?_, fun u hu hn m hmm hlv => ?_⟩, fun i hi hij => ?_⟩
  · rw [List.nodup_append]
    exact ⟨h.b.nodup, by simp, fun a ha b hb e => hm (by simp at hb; rw [← hb, ← e]; exact ha)⟩
  · rcases List.mem_append.1 hu with hu | hu
    · exact h.b.found u hu
    · simp only [List.mem_singleton] at hu
      obtain ⟨k, hk⟩ := h.b.found v (h.b.sub v (by simp))
      have := hl _ (List.getElem_mem hj)
      exact ⟨k + 1, by rw [hu]; exact layL_step hk this.1 this.2⟩
  · rw [← List.cons_append] at hu
    rcases List.mem_append.1 hu with hu | hu
    · exact List.mem_append_left _ (h.b.sub u hu)
    · exact List.mem_append_right _ hu
  · rw [← List.cons_append] at hn
    simp only [List.mem_append, not_or] at hn
    rcases List.mem_append.1 hu with hu | hu
    · exact List.mem_append_left _ (h.b.done u hu hn.1 m hmm hlv)
    · exact absurd hu hn.2
  · by_cases e : i = j
    · subst e; simp
    · exact List.mem_append_left _ (h.seen i hi (by omega))
theorem bfsLM_end {w : Tx} {ks : List Tx} {v : Tx} {R : List Tx} {l : List Mv} {j : Nat} (hl : ∀ m, m ∈ movesF v both → liveT (madeF v m) = true → m ∈ l) (h : BfsLM w ks v R l j) (hj : l.length ≤ j) : BfsL w ks R := by
  refine ⟨h.b.nodup, h.b.found, h.b.start, fun u hu => h.b.sub u (List.mem_cons_of_mem _ hu), fun u hu hn m hm hlv => ?_⟩
  by_cases e : u = v
  · subst e
    obtain ⟨i, hi, rfl⟩ := List.getElem_of_mem (hl m hm hlv)
    exact h.seen i hi (by omega)
  · exact h.b.done u hu (by simp only [List.mem_cons, not_or]; exact ⟨e, hn⟩) m hm hlv
end Go.Proofs.Ytblihaicbhdbdaa.X
