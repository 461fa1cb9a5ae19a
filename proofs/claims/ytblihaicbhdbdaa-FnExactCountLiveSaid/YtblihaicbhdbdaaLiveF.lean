/- Live lines, layer by layer, as the reference lays them. No condition. -/
import Derived.Test.YtblihaicbhdbdaaCountF
namespace Go.Proofs.Ytblihaicbhdbdaa.X
set_option linter.unusedVariables false
set_option linter.unusedSimpArgs false

def liveT (v : Tx) : Bool := decide (0 < wp (lastF v) v)
def addX (l : List Tx) (v : Tx) : List Tx := if liveT v && !decide (v ∈ l) then l ++ [v] else l
def nextL (l : List Tx) : List Tx := (l.flatMap succF).foldl addX []
def layL (w : Tx) : Nat → List Tx
  | 0 => [w]
  | k + 1 => nextL (layL w k)
theorem addX_mem {l : List Tx} {v u : Tx} : u ∈ addX l v ↔ u ∈ l ∨ (u = v ∧ liveT v = true) := by
  unfold addX
  split
  · rename_i h
    simp only [Bool.and_eq_true] at h
    simp only [List.mem_append, List.mem_singleton]
    constructor
    · rintro (h1 | h1)
      · exact .inl h1
      · exact .inr ⟨h1, h.1⟩
    · rintro (h1 | h1)
      · exact .inl h1
      · exact .inr h1.1
  · rename_i h
    constructor
    · exact .inl
    · rintro (h1 | ⟨rfl, h2⟩)
      · exact h1
      · rw [h2] at h
        simpa using h
theorem addX_nodup {l : List Tx} {v : Tx} (h : l.Nodup) : (addX l v).Nodup := by
  unfold addX
  split
  · rename_i hc
    simp only [Bool.and_eq_true, Bool.not_eq_true', decide_eq_false_iff_not] at hc
    rw [List.nodup_append]
    exact ⟨h, by simp, fun a ha b hb e => hc.2 (by simp at hb; rw [← hb, ← e]; exact ha)⟩
  · exact h
theorem foldX_mem : ∀ (vs l : List Tx) (u : Tx), u ∈ vs.foldl addX l ↔ u ∈ l ∨ (u ∈ vs ∧ liveT u = true)
  | [], l, u => by simp
  | v :: vs, l, u => by
    rw [List.foldl_cons, foldX_mem vs, addX_mem]
    constructor
    · rintro ((h | ⟨rfl, h⟩) | ⟨h1, h2⟩)
      · exact .inl h
      · exact .inr ⟨by simp, h⟩
      · exact .inr ⟨by simp [h1], h2⟩
    · rintro (h | ⟨h1, h2⟩)
      · exact .inl (.inl h)
      · rcases List.mem_cons.1 h1 with rfl | h1
        · exact .inl (.inr ⟨rfl, h2⟩)
        · exact .inr ⟨h1, h2⟩
theorem foldX_nodup : ∀ (vs l : List Tx), l.Nodup → (vs.foldl addX l).Nodup
  | [], l, h => h
  | v :: vs, l, h => by rw [List.foldl_cons]; exact foldX_nodup vs _ (addX_nodup h)
theorem layL_nodup (w : Tx) : ∀ k, (layL w k).Nodup
  | 0 => by simp [layL]
  | k + 1 => foldX_nodup _ _ List.nodup_nil
theorem layL_reach {w : Tx} : ∀ {k : Nat} {v : Tx}, v ∈ layL w k → Reach w v k
  | 0, v, h => by simpa [layL, Reach] using h
  | k + 1, v, h => by
    have h : v ∈ ((layL w k).flatMap succF).foldl addX [] := h
    rw [foldX_mem] at h
    rcases h with h | ⟨h, _⟩
    · cases h
    · obtain ⟨u, hu, hv⟩ := List.mem_flatMap.1 h
      obtain ⟨m, hm, rfl⟩ := List.mem_map.1 hv
      exact ⟨u, layL_reach hu, m, hm, rfl⟩
theorem liveT_iff {v : Tx} (h : v.length ≤ 8) : liveT v = true ↔ 0 < playsF (lastF v) v := by
  unfold liveT
  rw [wp_few h, decide_eq_true_eq]
  omega
theorem live_back {u : Tx} (h : u.length ≤ 8) {m : Mv} (hm : m ∈ movesF u both) (hl : liveT (madeF u m) = true) : liveT u = true := by
  rw [liveT_iff (by rw [madeF_len]; exact h), lastF_made hm] at hl
  rw [liveT_iff h]
  by_cases e : u = lastF u
  · rw [← e, playsF_self]; exact Nat.one_pos
  · exact (playsF_pos e).2 ⟨m, hm, hl⟩
theorem layL_mem {w : Tx} (hw : w.length ≤ 8) (hok : w.all okCh = true) (hl : liveT w = true) : ∀ {k : Nat} {v : Tx}, v ∈ layL w k ↔ Reach w v k ∧ liveT v = true
  | 0, v => by
    simp only [layL, Reach, List.mem_singleton]
    exact ⟨fun h => ⟨h, by rw [h]; exact hl⟩, fun h => h.1⟩
  | k + 1, v => by
    constructor
    · intro h
      refine ⟨layL_reach h, ?_⟩
      have h : v ∈ ((layL w k).flatMap succF).foldl addX [] := h
      rw [foldX_mem] at h
      rcases h with h | ⟨_, h⟩
      · cases h
      · exact h
    · rintro ⟨⟨u, hu, m, hm, rfl⟩, hv⟩
      show madeF u m ∈ ((layL w k).flatMap succF).foldl addX []
      rw [foldX_mem]
      have hul : u.length ≤ 8 := by obtain ⟨_, h2, _⟩ := reach_ok hok hu; omega
      exact .inr ⟨List.mem_flatMap.2 ⟨u, (layL_mem hw hok hl).2 ⟨hu, live_back hul hm hv⟩, List.mem_map.2 ⟨m, hm, rfl⟩⟩, hv⟩
theorem layL_none {w : Tx} {k : Nat} (h : potF w < k) : layL w k = [] := by
  apply Classical.byContradiction
  intro hn
  obtain ⟨v, hv⟩ := List.exists_mem_of_ne_nil _ hn
  have := reach_pot (layL_reach hv)
  omega
theorem layL_stop {w : Tx} {k : Nat} (h : layL w k = []) : ∀ {j : Nat}, k ≤ j → layL w j = [] := by
  intro j hj
  induction j with
  | zero => rw [show (0 : Nat) = k by omega]; exact h
  | succ j ih =>
    by_cases e : k = j + 1
    · rw [← e]; exact h
    · show nextL (layL w j) = []
      rw [ih (by omega)]; rfl
/-- A line is live: it lies in some layer of the first line of its signs. -/
theorem live_lay {f w : Tx} (hf : f.length ≤ 8) (hok : f.all okCh = true) (hl : liveT f = true) (hlast : lastF w = lastF f) : (∃ k, w ∈ layL f k) ↔ liveT w = true ∧ 0 < playsF w f := by
  constructor
  · rintro ⟨k, hk⟩
    have h := (layL_mem hf hok hl).1 hk
    refine ⟨h.2, ?_⟩
    rw [plays_at (lay_mem.2 h.1)]
    exact List.count_pos_iff.2 (endsF_mem.2 (lay_mem.2 h.1))
  · rintro ⟨h1, h2⟩
    have : ∃ k, w ∈ layF f k := by
      apply Classical.byContradiction
      intro hn
      rw [plays_none fun k hk => hn ⟨k, hk⟩] at h2
      omega
    obtain ⟨k, hk⟩ := this
    exact ⟨k, (layL_mem hf hok hl).2 ⟨lay_mem.1 hk, h1⟩⟩

/-! ### A layer's round, up to line i and move j -/
def acL (l : List Tx) (i : Nat) : List Tx := ((l.take i).flatMap succF).foldl addX []
theorem acL_end {l : List Tx} {i : Nat} (h : l.length ≤ i) : acL l i = nextL l := by unfold acL nextL; rw [List.take_of_length_le h]
def agL (l : List Tx) (i : Nat) (ms : List Tx) (j : Nat) : List Tx := (ms.take j).foldl addX (acL l i)
theorem agL_zero (l : List Tx) (i : Nat) (ms : List Tx) : agL l i ms 0 = acL l i := rfl
theorem agL_succ (l : List Tx) (i : Nat) {ms : List Tx} {j : Nat} (h : j < ms.length) : agL l i ms (j + 1) = addX (agL l i ms j) ms[j] := by
  unfold agL; rw [List.take_succ_eq_append_getElem h, List.foldl_append]; rfl
theorem agL_end {l : List Tx} {i j : Nat} (h : i < l.length) (hj : (succF l[i]).length ≤ j) : agL l i (succF l[i]) j = acL l (i + 1) := by
  unfold agL acL
  rw [List.take_of_length_le hj, List.take_succ_eq_append_getElem h, List.flatMap_append, List.foldl_append]
  simp
theorem agL_few {w : Tx} (hok : w.all okCh = true) (hl : w.length ≤ 14) {k i j : Nat} (hi : i < (layL w k).length) : (agL (layL w k) i (succF (layL w k)[i]) j).length ≤ 4398046511104 :=
  few_keys (foldX_nodup _ _ (foldX_nodup _ _ List.nodup_nil)) fun s hs => by
    have hr : Reach w s (k + 1) := by
      unfold agL acL at hs
      rw [foldX_mem, foldX_mem] at hs
      rcases hs with (h | ⟨h, _⟩) | ⟨h, _⟩
      · cases h
      · obtain ⟨u, hu, hmu⟩ := List.mem_flatMap.1 h
        obtain ⟨m, hm2, e⟩ := List.mem_map.1 hmu
        exact ⟨u, layL_reach (List.mem_of_mem_take hu), m, hm2, e.symm⟩
      · obtain ⟨m, hm2, e⟩ := List.mem_map.1 (List.mem_of_mem_take h)
        exact ⟨_, layL_reach (List.getElem_mem hi), m, hm2, e.symm⟩
    obtain ⟨h1, h2, _⟩ := reach_ok hok hr
    exact ⟨by omega, fun c hc => okCh_okK (List.all_eq_true.1 h1 c hc)⟩
theorem layL_few {w : Tx} (hok : w.all okCh = true) (hl : w.length ≤ 14) (k : Nat) : (layL w k).length ≤ 4398046511104 :=
  few_keys (layL_nodup w k) fun s hs => by
    obtain ⟨h1, h2, _⟩ := reach_ok hok (layL_reach hs)
    exact ⟨by omega, fun c hc => okCh_okK (List.all_eq_true.1 h1 c hc)⟩
end Go.Proofs.Ytblihaicbhdbdaa.X
