/- Lines found one behind the other, and none is missed. No condition. -/
import Derived.Test.YtblihaicbhdbdaaDoorReachF
namespace Go.Proofs.YtblihaicbhdbdaaDoor.X
set_option linter.unusedVariables false
set_option linter.unusedSimpArgs false

/-- What holds of the lines found, and of those that wait. -/
structure Bfs (w : Tx) (ks Q : List Tx) : Prop where
  nodup : ks.Nodup
  reach : ∀ v ∈ ks, ∃ k, Reach w v k
  start : w ∈ ks
  sub : ∀ v ∈ Q, v ∈ ks
  done : ∀ v ∈ ks, v ∉ Q → ∀ m ∈ movesF v both, madeF v m ∈ ks
theorem bfs_start (w : Tx) : Bfs w [w] [w] := ⟨by simp, fun v hv => by simp at hv; subst hv; exact ⟨0, rfl⟩, by simp, fun v hv => hv, fun v hv hn => absurd hv hn⟩
theorem bfs_all {w : Tx} {ks : List Tx} (h : Bfs w ks []) {v : Tx} : v ∈ ks ↔ ∃ k, Reach w v k := by
  refine ⟨h.reach v, ?_⟩
  rintro ⟨k, hk⟩
  induction k generalizing v with
  | zero => rw [show v = w from hk]; exact h.start
  | succ k ih =>
    obtain ⟨u, hu, m, hm, rfl⟩ := hk
    exact h.done u (ih hu) (by simp) m hm
/-- In the midst of a line's moves: the first j of them are looked at. -/
structure BfsM (w : Tx) (ks : List Tx) (v : Tx) (R : List Tx) (j : Nat) : Prop where
  b : Bfs w ks (v :: R)
  seen : ∀ i (hi : i < (movesF v both).length), i < j → madeF v (movesF v both)[i] ∈ ks
theorem bfsM_start {w : Tx} {ks : List Tx} {v : Tx} {R : List Tx} (h : Bfs w ks (v :: R)) : BfsM w ks v R 0 := ⟨h, fun i hi h => absurd h (Nat.not_lt_zero _)⟩
theorem bfsM_old {w : Tx} {ks : List Tx} {v : Tx} {R : List Tx} {j : Nat} (h : BfsM w ks v R j) (hj : j < (movesF v both).length) (hm : madeF v (movesF v both)[j] ∈ ks) : BfsM w ks v R (j + 1) :=
  ⟨h.b, fun i hi hij => by
    by_cases e : i = j
    · subst e; exact hm
    · exact h.seen i hi (by omega)⟩
theorem bfsM_new {w : Tx} {ks : List Tx} {v : Tx} {R : List Tx} {j : Nat} (h : BfsM w ks v R j) (hj : j < (movesF v both).length) (hm : madeF v (movesF v both)[j] ∉ ks) : BfsM w (ks ++ [madeF v (movesF v both)[j]]) v (R ++ [madeF v (movesF v both)[j]]) (j + 1) := by
  refine ⟨⟨?_, fun u hu => ?_, List.mem_append_left _ h.b.start, fun u hu => ?_, fun u hu hn m hmm => ?_⟩, fun i hi hij => ?_⟩
  · rw [List.nodup_append]
    exact ⟨h.b.nodup, by simp, fun a ha b hb e => hm (by simp at hb; rw [← hb, ← e]; exact ha)⟩
  · rcases List.mem_append.1 hu with hu | hu
    · exact h.b.reach u hu
    · simp only [List.mem_singleton] at hu
      obtain ⟨k, hk⟩ := h.b.reach v (h.b.sub v (by simp))
      exact ⟨k + 1, v, hk, _, List.getElem_mem hj, hu⟩
  · rw [← List.cons_append] at hu
    rcases List.mem_append.1 hu with hu | hu
    · exact List.mem_append_left _ (h.b.sub u hu)
    · exact List.mem_append_right _ hu
  · rw [← List.cons_append] at hn
    simp only [List.mem_append, not_or] at hn
    rcases List.mem_append.1 hu with hu | hu
    · exact List.mem_append_left _ (h.b.done u hu hn.1 m hmm)
    · exact absurd hu hn.2
  · by_cases e : i = j
    · subst e; simp
    · exact List.mem_append_left _ (h.seen i hi (by omega))
theorem bfsM_end {w : Tx} {ks : List Tx} {v : Tx} {R : List Tx} {j : Nat} (h : BfsM w ks v R j) (hj : (movesF v both).length ≤ j) : Bfs w ks R := by
  refine ⟨h.b.nodup, h.b.reach, h.b.start, fun u hu => h.b.sub u (List.mem_cons_of_mem _ hu), fun u hu hn m hm => ?_⟩
  by_cases e : u = v
  · subst e
    obtain ⟨i, hi, rfl⟩ := List.getElem_of_mem hm
    exact h.seen i hi (by omega)
  · exact h.b.done u hu (by simp only [List.mem_cons, not_or]; exact ⟨e, hn⟩) m hm
theorem bfs_few {w : Tx} (hok : w.all okCh = true) (hw : w.length ≤ 14) {ks Q : List Tx} (h : Bfs w ks Q) : ks.length ≤ 4398046511104 :=
  few_keys h.nodup fun s hs => by
    obtain ⟨k, hk⟩ := h.reach s hs
    obtain ⟨h1, h2, _⟩ := reach_ok hok hk
    exact ⟨by omega, fun c hc => okCh_okK (List.all_eq_true.1 h1 c hc)⟩
theorem bfs_ok {w : Tx} (hok : w.all okCh = true) {ks Q : List Tx} (h : Bfs w ks Q) {v : Tx} (hv : v ∈ ks) : v.all okCh = true ∧ v.length = w.length := by
  obtain ⟨k, hk⟩ := h.reach v hv
  obtain ⟨h1, h2, _⟩ := reach_ok hok hk
  exact ⟨h1, h2⟩
/-- How many moves lead to a line that is reached. -/
def dF (w v : Tx) : Int := (potF w : Int) - (potF v : Int)
theorem dF_self (w : Tx) : dF w w = 0 := by unfold dF; omega
theorem dF_made {w v : Tx} {m : Mv} (h : m ∈ movesF v both) : dF w (madeF v m) = dF w v + 1 := by
  have := pot_made h
  unfold dF; omega
theorem dF_reach {w v : Tx} {k : Nat} (h : Reach w v k) : dF w v = k := by
  have := reach_pot h
  unfold dF; omega
theorem dF_bound {w v : Tx} (hw : w.length ≤ 14) (h : ∃ k, Reach w v k) : 0 ≤ dF w v ∧ dF w v ≤ 1000 := by
  obtain ⟨k, hk⟩ := h
  have h1 := reach_pot hk
  have h2 := pot_small' hw
  unfold dF; omega
end Go.Proofs.YtblihaicbhdbdaaDoor.X
