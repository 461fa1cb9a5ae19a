/- Moves by rules, plain: what both tell, that it is the same, and what the law asks of it. No condition. -/
import Derived.Test.YtaidpalamhmghaaDoorMmF
namespace Go.Proofs.YtaidpalamhmghaaDoor.X
set_option linter.unusedVariables false
set_option linter.unusedSimpArgs false

/-! ### What the reference asks of a move -/
def wayS (m : Mv) : Int := if m.2 < m.1 then -1 else 1
def farS (m : Mv) : Nat := (m.2 - m.1).natAbs
theorem far_way (m : Mv) : m.2 = m.1 + (farS m : Nat) * wayS m := by unfold wayS farS; split <;> omega
def midOk (w : Tx) (o : Bool) (m : Mv) (k : Nat) : Bool := decide (¬ atF w (m.1 + (k : Int) * wayS m) = 46) && (o || decide (¬ atF w (m.1 + (k : Int) * wayS m) = atF w m.1))
def rcF (w : Tx) (o bk l : Bool) (m : Mv) : Bool :=
  decide (0 ≤ m.1 ∧ m.1 < w.length) && (decide (0 ≤ m.2 ∧ m.2 < w.length) && (decide (¬ atF w m.1 = 46) && (decide (atF w m.2 = 46) &&
    ((bk || decide (atF w m.1 = 84 ↔ ¬ m.2 < m.1)) && ((l || decide (farS m ≤ 2)) && (List.range (farS m)).all fun k => decide (k = 0) || midOk w o m k)))))
theorem mid_iff {w : Tx} {o : Bool} {m : Mv} {k : Nat} : midOk w o m k = true ↔ ¬ atF w (m.1 + (k : Int) * wayS m) = 46 ∧ (o = true ∨ ¬ atF w (m.1 + (k : Int) * wayS m) = atF w m.1) := by
  unfold midOk; simp only [Bool.and_eq_true, Bool.or_eq_true, decide_eq_true_eq]
theorem rc_iff {w : Tx} {o bk l : Bool} {m : Mv} : rcF w o bk l m = true ↔ (0 ≤ m.1 ∧ m.1 < w.length) ∧ (0 ≤ m.2 ∧ m.2 < w.length) ∧ ¬ atF w m.1 = 46 ∧ atF w m.2 = 46 ∧
    (bk = true ∨ (atF w m.1 = 84 ↔ ¬ m.2 < m.1)) ∧ (l = true ∨ farS m ≤ 2) ∧ ∀ k : Nat, 1 ≤ k → k < farS m → midOk w o m k = true := by
  unfold rcF
  simp only [Bool.and_eq_true, Bool.or_eq_true, decide_eq_true_eq, List.all_eq_true, List.mem_range]
  constructor
  · rintro ⟨h1, h2, h3, h4, h5, h6, h7⟩
    exact ⟨h1, h2, h3, h4, h5, h6, fun k hk hf => (h7 k hf).resolve_left (by omega)⟩
  · rintro ⟨h1, h2, h3, h4, h5, h6, h7⟩
    refine ⟨h1, h2, h3, h4, h5, h6, fun k hf => ?_⟩
    by_cases h0 : k = 0
    · exact .inl h0
    · exact .inr (h7 k (by omega) hf)

/-! ### Lists in order -/
theorem mvLt_irr {a : Mv} : ¬ mvLt a a := by unfold mvLt; omega
theorem mvLt_asym {a b : Mv} (h : mvLt a b) : ¬ mvLt b a := by unfold mvLt at *; omega
theorem rise_eq : ∀ {l l' : List Mv}, l.Pairwise mvLt → l'.Pairwise mvLt → (∀ m, m ∈ l ↔ m ∈ l') → l = l'
  | [], [], _, _, _ => rfl
  | [], b :: l', _, _, h => absurd ((h b).2 (List.mem_cons_self ..)) (by simp)
  | a :: l, [], _, _, h => absurd ((h a).1 (List.mem_cons_self ..)) (by simp)
  | a :: l, b :: l', h1, h2, h => by
    rw [List.pairwise_cons] at h1 h2
    have e : a = b := by
      rcases List.mem_cons.1 ((h a).1 (List.mem_cons_self ..)) with e | ha
      · exact e
      · rcases List.mem_cons.1 ((h b).2 (List.mem_cons_self ..)) with e | hb
        · exact e.symm
        · exact absurd (h1.1 b hb) (mvLt_asym (h2.1 a ha))
    subst e
    have hn1 : a ∉ l := fun hm => mvLt_irr (h1.1 a hm)
    have hn2 : a ∉ l' := fun hm => mvLt_irr (h2.1 a hm)
    congr 1
    refine rise_eq h1.2 h2.2 fun m => ?_
    have hm := h m
    simp only [List.mem_cons] at hm
    constructor
    · intro hl
      rcases hm.1 (.inr hl) with e | hl'
      · subst e; exact absurd hl hn1
      · exact hl'
    · intro hl
      rcases hm.2 (.inr hl) with e | hl'
      · subst e; exact absurd hl hn2
      · exact hl'

/-! ### The reference's list -/
def ruRow (w : Tx) (o bk l : Bool) (i n : Nat) : List Mv := (List.range n).filterMap fun (j : Nat) => if rcF w o bk l ((i : Int), (j : Int)) then some ((i : Int), (j : Int)) else none
def ruL (w : Tx) (o bk l : Bool) : List Mv := (List.range w.length).flatMap fun i => ruRow w o bk l i w.length
theorem mem_row {w : Tx} {o bk l : Bool} {i n : Nat} {m : Mv} : m ∈ ruRow w o bk l i n ↔ m.1 = i ∧ ∃ j : Nat, j < n ∧ m.2 = j ∧ rcF w o bk l m = true := by
  unfold ruRow
  rw [List.mem_filterMap]
  constructor
  · rintro ⟨j, hj, h⟩
    split at h
    · rename_i hr
      obtain rfl := Option.some.inj h
      exact ⟨rfl, j, List.mem_range.1 hj, rfl, hr⟩
    · cases h
  · rintro ⟨h1, j, hj, h2, hr⟩
    obtain ⟨a, b⟩ := m
    simp only at h1 h2
    subst h1 h2
    exact ⟨j, List.mem_range.2 hj, by rw [if_pos hr]⟩
theorem mem_ru {w : Tx} {o bk l : Bool} {m : Mv} : m ∈ ruL w o bk l ↔ rcF w o bk l m = true := by
  unfold ruL
  rw [List.mem_flatMap]
  constructor
  · rintro ⟨i, _, h⟩
    obtain ⟨_, _, _, _, hr⟩ := mem_row.1 h
    exact hr
  · intro h
    have hi := rc_iff.1 h
    refine ⟨m.1.toNat, List.mem_range.2 (by omega), mem_row.2 ⟨by omega, m.2.toNat, by omega, by omega, h⟩⟩
theorem row_rise (w : Tx) (o bk l : Bool) (i n : Nat) : (ruRow w o bk l i n).Pairwise mvLt := by
  unfold ruRow
  refine List.Pairwise.filterMap _ ?_ List.pairwise_lt_range
  intro j j' hjj a ha b hb
  split at ha
  · split at hb
    · obtain rfl := Option.some.inj ha
      obtain rfl := Option.some.inj hb
      exact .inr ⟨rfl, by simp only; omega⟩
    · cases hb
  · cases ha
theorem ru_rise (w : Tx) (o bk l : Bool) : (ruL w o bk l).Pairwise mvLt := by
  unfold ruL
  rw [List.pairwise_flatMap]
  refine ⟨fun i _ => row_rise w o bk l i w.length, ?_⟩
  refine List.Pairwise.imp ?_ List.pairwise_lt_range
  intro i i' hii a ha b hb
  have h1 := (mem_row.1 ha).1
  have h2 := (mem_row.1 hb).1
  exact .inl (by omega)

/-! ### The program's list -/
def passF (w : Tx) (o : Bool) (i t : Int) : Bool := decide (atF w t = otherF (atF w i)) || (o && decide (atF w t = atF w i))
/-- How far it goes. -/
def stK (w : Tx) (o : Bool) (i d : Int) : Nat := (List.range (w.length + 1)).findIdx fun (k : Nat) => !passF w o i (i + ((k : Int) + 1) * d)
def goB (w : Tx) (o bk l : Bool) (i d : Int) : List Mv :=
  if stepF (atF w i) = 0 ∨ (¬ stepF (atF w i) = d ∧ bk = false) then [] else
    if atF w (i + ((stK w o i d : Nat) + 1) * d) = 46 ∧ (stK w o i d ≤ 1 ∨ l = true) then [(i, i + ((stK w o i d : Nat) + 1) * d)] else []
def byL (w : Tx) (o bk l : Bool) : List Mv := (List.range w.length).flatMap fun (i : Nat) => goB w o bk l (i : Int) (-1) ++ goB w o bk l (i : Int) 1
theorem stK_at {w : Tx} {o : Bool} {i d : Int} {k : Nat} (hk : k ≤ w.length) (h1 : passF w o i (i + ((k : Int) + 1) * d) = false) (h2 : ∀ j : Nat, j < k → passF w o i (i + ((j : Int) + 1) * d) = true) : stK w o i d = k := by
  unfold stK
  have hl : k < (List.range (w.length + 1)).length := by rw [List.length_range]; omega
  rw [List.findIdx_eq hl]
  simp only [List.getElem_range]
  exact ⟨by rw [h1]; rfl, fun j hj => by rw [h2 j hj]; rfl⟩
theorem animal {w : Tx} {i : Int} (h : stepF (atF w i) ≠ 0) : (atF w i = 84 ∨ atF w i = 70) ∧ (0 ≤ i ∧ i < w.length) := by
  have hc : atF w i = 84 ∨ atF w i = 70 := by
    rcases stepF_three (atF w i) with ⟨e, _⟩ | ⟨e, _⟩ | e
    · exact .inl e
    · exact .inr e
    · exact absurd e h
  refine ⟨hc, ?_⟩
  apply Classical.byContradiction
  intro hn
  rw [atF_out hn] at hc
  rcases hc with e | e <;> exact absurd e (by decide)
theorem pass_in {w : Tx} {o : Bool} {i t : Int} (h : stepF (atF w i) ≠ 0) (hp : passF w o i t = true) : 0 ≤ t ∧ t < w.length := by
  apply Classical.byContradiction
  intro hn
  unfold passF at hp
  rw [atF_out hn] at hp
  rcases (animal h).1 with e | e <;> rw [e] at hp <;> cases o <;> revert hp <;> decide
/-- It stops somewhere. -/
theorem stK_stop {w : Tx} {o : Bool} {i d : Int} (h : stepF (atF w i) ≠ 0) (hd : d = 1 ∨ d = -1) : stK w o i d ≤ w.length ∧ passF w o i (i + ((stK w o i d : Nat) + 1) * d) = false ∧ ∀ j : Nat, j < stK w o i d → passF w o i (i + ((j : Int) + 1) * d) = true := by
  have hin := (animal h).2
  have hout : passF w o i (i + ((w.length : Nat) + 1) * d) = false := by
    cases hp : passF w o i (i + ((w.length : Nat) + 1) * d) with
    | false => rfl
    | true => have := pass_in h hp; rcases hd with rfl | rfl <;> omega
  have hex : ∃ x ∈ List.range (w.length + 1), (!passF w o i (i + ((x : Int) + 1) * d)) = true := ⟨w.length, List.mem_range.2 (by omega), by rw [hout]; rfl⟩
  have hlt := List.findIdx_lt_length_of_exists hex
  have h1 := List.findIdx_getElem (w := hlt)
  simp only [List.getElem_range] at h1
  rw [List.length_range] at hlt
  refine ⟨by unfold stK; omega, ?_, fun j hj => ?_⟩
  · unfold stK
    simpa using h1
  · have h2 := List.not_of_lt_findIdx (p := fun (k : Nat) => !passF w o i (i + ((k : Int) + 1) * d)) (xs := List.range (w.length + 1)) hj
    simp only [List.getElem_range] at h2
    simpa using h2
theorem pass_iff {w : Tx} {o : Bool} {i t : Int} (hok : w.all okCh = true) (h : stepF (atF w i) ≠ 0) (ht : 0 ≤ t ∧ t < w.length) : passF w o i t = true ↔ ¬ atF w t = 46 ∧ (o = true ∨ ¬ atF w t = atF w i) := by
  have hc : okCh (atF w t) = true := by rw [atF_in ht]; exact all_getD hok (by omega)
  simp only [okCh, Bool.or_eq_true, decide_eq_true_eq] at hc
  unfold passF
  simp only [Bool.or_eq_true, Bool.and_eq_true, decide_eq_true_eq]
  rcases (animal h).1 with e | e <;> rw [e] <;> rcases hc with c | c | c <;> rw [c] <;> simp [otherF]
theorem mem_goB {w : Tx} {o bk l : Bool} {i d : Int} {m : Mv} (hok : w.all okCh = true) (hd : d = 1 ∨ d = -1) : m ∈ goB w o bk l i d ↔ m.1 = i ∧ wayS m = d ∧ rcF w o bk l m = true := by
  have hwd : ∀ k : Nat, wayS (i, i + ((k : Int) + 1) * d) = d := fun k => by unfold wayS; rcases hd with rfl | rfl <;> simp only <;> split <;> omega
  have hfd : ∀ k : Nat, farS (i, i + ((k : Int) + 1) * d) = k + 1 := fun k => by unfold farS; rcases hd with rfl | rfl <;> simp only <;> omega
  have hdir : ∀ k : Nat, (¬ (i + ((k : Int) + 1) * d) < i) ↔ d = 1 := fun k => by rcases hd with rfl | rfl <;> omega
  constructor
  · intro h
    unfold goB at h
    split at h
    · simp at h
    · rename_i hs
      have hst : stepF (atF w i) ≠ 0 := fun e => hs (.inl e)
      have hbk : bk = true ∨ stepF (atF w i) = d := by
        cases bk with
        | true => exact .inl rfl
        | false => exact .inr (Classical.byContradiction fun hn => hs (.inr ⟨hn, rfl⟩))
      obtain ⟨hk, hno, hyes⟩ := stK_stop (o := o) hst hd
      split at h
      · rename_i hc
        simp only [List.mem_singleton] at h
        subst h
        have hin := (animal hst).2
        have hti : 0 ≤ i + ((stK w o i d : Nat) + 1) * d ∧ i + ((stK w o i d : Nat) + 1) * d < w.length := by
          apply Classical.byContradiction
          intro hn
          rw [atF_out hn] at hc
          exact absurd hc.1 (by decide)
        refine ⟨rfl, hwd _, rc_iff.2 ⟨hin, hti, ?_, hc.1, ?_, ?_, ?_⟩⟩
        · rcases (animal hst).1 with e | e <;> simp only [e] <;> decide
        · rcases hbk with e | e
          · exact .inl e
          · right
            simp only [hdir]
            rcases (animal hst).1 with e2 | e2
            · rw [e2] at e ⊢
              have : (1 : Int) = d := e
              simp [← this]
            · rw [e2] at e ⊢
              have : (-1 : Int) = d := e
              subst this
              simp
        · rcases hc.2 with e | e
          · right; rw [hfd]; omega
          · exact .inl e
        · intro k hk1 hkf
          rw [hfd] at hkf
          rw [mid_iff, hwd]
          simp only
          have hp := hyes (k - 1) (by omega)
          rw [show ((k - 1 : Nat) : Int) + 1 = k by omega] at hp
          exact (pass_iff hok hst (pass_in hst hp)).1 hp
      · simp at h
  · rintro ⟨h1, h2, h3⟩
    obtain ⟨a, b⟩ := m
    simp only at h1
    subst h1
    obtain ⟨g1, g2, g3, g4, g5, g6, g7⟩ := rc_iff.1 h3
    have hb := far_way (a, b)
    simp only at g1 g2 g3 g4 g5 g6 g7 hb
    rw [h2] at hb
    have hst : stepF (atF w a) ≠ 0 := by
      have hc : okCh (atF w a) = true := by rw [atF_in g1]; exact all_getD hok (by omega)
      simp only [okCh, Bool.or_eq_true, decide_eq_true_eq] at hc
      rcases hc with e | e | e
      · rw [e]; decide
      · rw [e]; decide
      · exact absurd e g3
    have hf0 : farS (a, b) ≠ 0 := fun e => by
      rw [e] at hb
      have : b = a := by simpa using hb
      rw [this] at g4; exact g3 g4
    obtain ⟨f, hf⟩ : ∃ f, farS (a, b) = f + 1 := ⟨farS (a, b) - 1, by omega⟩
    rw [hf] at g6 g7 hb
    have hb' : b = a + ((f : Int) + 1) * d := by rw [hb]; push_cast; rfl
    have hfl : f ≤ w.length := by rcases hd with rfl | rfl <;> omega
    have hK : stK w o a d = f := by
      refine stK_at hfl ?_ ?_
      · rw [← hb']
        unfold passF
        rw [g4]
        rcases (animal hst).1 with e | e <;> rw [e] <;> cases o <;> decide
      · intro j hj
        have hm := g7 (j + 1) (by omega) (by omega)
        rw [mid_iff, h2] at hm
        simp only at hm
        rw [show ((j + 1 : Nat) : Int) = (j : Int) + 1 by omega] at hm
        refine (pass_iff hok hst ?_).2 hm
        rcases hd with rfl | rfl <;> omega
    unfold goB
    rw [hK, ← hb', if_neg, if_pos]
    · simp
    · refine ⟨g4, ?_⟩
      rcases g6 with e | e
      · exact .inr e
      · left; omega
    · rintro (e | ⟨e1, e2⟩)
      · exact hst e
      · rcases g5 with g5 | g5
        · rw [e2] at g5; cases g5
        · apply e1
          have hdd : (¬ b < a) ↔ d = 1 := by rw [hb']; exact hdir f
          rw [hdd] at g5
          rcases (animal hst).1 with e | e
          · rw [e] at g5 ⊢
            rw [g5.1 rfl]; rfl
          · rw [e] at g5 ⊢
            rcases hd with rfl | rfl
            · exact absurd (g5.2 rfl) (by decide)
            · rfl
theorem mem_by {w : Tx} {o bk l : Bool} {m : Mv} (hok : w.all okCh = true) : m ∈ byL w o bk l ↔ rcF w o bk l m = true := by
  unfold byL
  rw [List.mem_flatMap]
  constructor
  · rintro ⟨i, _, h⟩
    rcases List.mem_append.1 h with h | h
    · exact ((mem_goB hok (.inr rfl)).1 h).2.2
    · exact ((mem_goB hok (.inl rfl)).1 h).2.2
  · intro h
    have hi := rc_iff.1 h
    refine ⟨m.1.toNat, List.mem_range.2 (by omega), ?_⟩
    rw [List.mem_append]
    by_cases hw : m.2 < m.1
    · exact .inl ((mem_goB hok (.inr rfl)).2 ⟨by omega, by unfold wayS; rw [if_pos hw], h⟩)
    · exact .inr ((mem_goB hok (.inl rfl)).2 ⟨by omega, by unfold wayS; rw [if_neg hw], h⟩)
theorem goB_one {w : Tx} {o bk l : Bool} {i d : Int} : goB w o bk l i d = [] ∨ ∃ m, goB w o bk l i d = [m] := by
  unfold goB
  split
  · exact .inl rfl
  · split
    · exact .inr ⟨_, rfl⟩
    · exact .inl rfl
theorem by_rise {w : Tx} {o bk l : Bool} (hok : w.all okCh = true) : (byL w o bk l).Pairwise mvLt := by
  have h1 : ∀ {i d : Int}, (goB w o bk l i d).Pairwise mvLt := fun {i d} => by
    rcases goB_one (w := w) (o := o) (bk := bk) (l := l) (i := i) (d := d) with e | ⟨m, e⟩ <;> rw [e] <;> simp
  unfold byL
  rw [List.pairwise_flatMap]
  refine ⟨fun i _ => ?_, ?_⟩
  · rw [List.pairwise_append]
    refine ⟨h1, h1, fun a ha b hb => ?_⟩
    obtain ⟨a1, a2, a3⟩ := (mem_goB hok (.inr rfl)).1 ha
    obtain ⟨b1, b2, b3⟩ := (mem_goB hok (.inl rfl)).1 hb
    unfold wayS at a2 b2
    refine .inr ⟨by omega, ?_⟩
    split at a2
    · split at b2
      · omega
      · omega
    · omega
  · refine List.Pairwise.imp ?_ List.pairwise_lt_range
    intro i i' hii a ha b hb
    have key : ∀ {i : Nat} {m : Mv}, m ∈ goB w o bk l i (-1) ++ goB w o bk l i 1 → m.1 = i := fun {i m} h => by
      rcases List.mem_append.1 h with h | h
      · exact ((mem_goB hok (.inr rfl)).1 h).1
      · exact ((mem_goB hok (.inl rfl)).1 h).1
    have h1 := key ha
    have h2 := key hb
    exact .inl (by omega)
/-- Both tell the same. -/
theorem by_ru {w : Tx} {o bk l : Bool} (hok : w.all okCh = true) : byL w o bk l = ruL w o bk l :=
  rise_eq (by_rise hok) (ru_rise w o bk l) fun m => by rw [mem_by hok, mem_ru]

/-! ### What the law asks -/
theorem rc_mono {w : Tx} {o bk l o' bk' l' : Bool} {m : Mv} (h1 : o = true → o' = true) (h2 : bk = true → bk' = true) (h3 : l = true → l' = true) (h : rcF w o bk l m = true) : rcF w o' bk' l' m = true := by
  obtain ⟨g1, g2, g3, g4, g5, g6, g7⟩ := rc_iff.1 h
  refine rc_iff.2 ⟨g1, g2, g3, g4, g5.imp h2 id, g6.imp h3 id, fun k hk hf => ?_⟩
  have := mid_iff.1 (g7 k hk hf)
  exact mid_iff.2 ⟨this.1, this.2.imp h1 id⟩
/-- Without a rule: the moves of chapter 1. -/
theorem rc_none {w : Tx} {m : Mv} (hok : w.all okCh = true) : rcF w false false false m = true ↔ m ∈ movesF w both := by
  rw [← canG_mem, ← canF_eq hok]
  constructor
  · intro h
    obtain ⟨g1, g2, g3, g4, g5, g6, g7⟩ := rc_iff.1 h
    have g5 := g5.resolve_left (by decide)
    have g6 := g6.resolve_left (by decide)
    have hc : okCh (atF w m.1) = true := by rw [atF_in g1]; exact all_getD hok (by omega)
    simp only [okCh, Bool.or_eq_true, decide_eq_true_eq] at hc
    have hb := far_way m
    have hf0 : farS m ≠ 0 := fun e => by
      rw [e] at hb
      have : m.2 = m.1 := by simpa using hb
      rw [this] at g4; exact g3 g4
    rw [canF_at g1, ← atF_in g1]
    have hmid : farS m = 2 → atF w (m.1 + wayS m) = otherF (atF w m.1) := fun e => by
      have hm := mid_iff.1 (g7 1 (Nat.le_refl _) (by omega))
      simp only [show ((1 : Nat) : Int) * wayS m = wayS m by omega] at hm
      have hin : 0 ≤ m.1 + wayS m ∧ m.1 + wayS m < w.length := by rw [e] at hb; unfold wayS at *; split at hb <;> omega
      have hc2 : okCh (atF w (m.1 + wayS m)) = true := by rw [atF_in hin]; exact all_getD hok (by omega)
      simp only [okCh, Bool.or_eq_true, decide_eq_true_eq] at hc2
      have hm2 := hm.2.resolve_left (by decide)
      rcases hc with c | c | c
      · rw [c] at hm2 ⊢; rcases hc2 with d | d | d
        · exact absurd d hm2
        · rw [d]; rfl
        · exact absurd d hm.1
      · rw [c] at hm2 ⊢; rcases hc2 with d | d | d
        · rw [d]; rfl
        · exact absurd d hm2
        · exact absurd d hm.1
      · exact absurd c g3
    have hf : farS m = 1 ∨ farS m = 2 := by omega
    rcases hc with c | c | c
    · have hw : wayS m = 1 := by unfold wayS; rw [if_neg (g5.1 c)]
      rw [hw] at hb hmid
      simp only [c, g4, decide_true, Bool.true_and, if_true, Bool.or_eq_true, Bool.and_eq_true, decide_eq_true_eq]
      rcases hf with e | e
      · left; rw [e] at hb; omega
      · right; refine ⟨by rw [e] at hb; omega, ?_⟩
        have := hmid e; rw [c] at this; exact this
    · have hn : m.2 < m.1 := Classical.byContradiction fun hn => by have := g5.2 hn; rw [c] at this; exact absurd this (by decide)
      have hw : wayS m = -1 := by unfold wayS; rw [if_pos hn]
      rw [hw] at hb hmid
      simp only [c, g4, decide_true, Bool.true_and, if_true, if_false, show ¬ ((70 : UInt8) = 84) from by decide, Bool.or_eq_true, Bool.and_eq_true, decide_eq_true_eq]
      rcases hf with e | e
      · left; rw [e] at hb; omega
      · right; refine ⟨by rw [e] at hb; omega, ?_⟩
        have := hmid e; rw [c] at this; exact this
    · exact absurd c g3
  · intro h
    have g1 : 0 ≤ m.1 ∧ m.1 < w.length := by
      unfold canF at h; simp only [Bool.and_eq_true, decide_eq_true_eq] at h; omega
    have g2 : 0 ≤ m.2 ∧ m.2 < w.length := by
      unfold canF at h; simp only [Bool.and_eq_true, decide_eq_true_eq] at h; omega
    rw [canF_at g1, ← atF_in g1] at h
    simp only [Bool.and_eq_true, decide_eq_true_eq] at h
    obtain ⟨g4, h⟩ := h
    have key : ∀ (c : UInt8) (d : Int), (d = 1 ∨ d = -1) → atF w m.1 = c → (m.2 = m.1 + d ∨ (m.2 = m.1 + 2 * d ∧ atF w (m.1 + d) = otherF c)) → ¬ c = 46 → (c = 84 ↔ d = 1) → ¬ otherF c = 46 → ¬ otherF c = c → rcF w false false false m = true := by
      intro c d hd hc hm h46 h84 ho1 ho2
      have hw : wayS m = d := by unfold wayS; rcases hd with rfl | rfl <;> split <;> omega
      refine rc_iff.2 ⟨g1, g2, by rw [hc]; exact h46, g4, .inr ?_, .inr ?_, ?_⟩
      · rw [hc, h84]; rcases hd with rfl | rfl <;> omega
      · unfold farS; rcases hd with rfl | rfl <;> omega
      · intro k hk hf
        have hf2 : k = 1 ∧ m.2 = m.1 + 2 * d := by unfold farS at hf; rcases hd with rfl | rfl <;> omega
        obtain ⟨rfl, hm2⟩ := hf2
        have ho : atF w (m.1 + d) = otherF c := by
          rcases hm with e | e
          · rcases hd with rfl | rfl <;> omega
          · exact e.2
        rw [mid_iff, hw, show ((1 : Nat) : Int) * d = d by omega, ho, hc]
        exact ⟨ho1, .inr ho2⟩
    by_cases c84 : atF w m.1 = 84
    · rw [c84, if_pos rfl] at h
      simp only [Bool.or_eq_true, Bool.and_eq_true, decide_eq_true_eq] at h
      exact key 84 1 (.inl rfl) c84 (h.imp id fun x => ⟨by omega, x.2⟩) (by decide) (by decide) (by decide) (by decide)
    · rw [if_neg c84] at h
      by_cases c70 : atF w m.1 = 70
      · rw [c70, if_pos rfl] at h
        simp only [Bool.or_eq_true, Bool.and_eq_true, decide_eq_true_eq] at h
        exact key 70 (-1) (.inr rfl) c70 (h.imp (fun x => by omega) fun x => ⟨by omega, x.2⟩) (by decide) (by decide) (by decide) (by decide)
      · rw [if_neg c70] at h; cases h
theorem ru_none {w : Tx} (hok : w.all okCh = true) : ruL w false false false = movesF w both :=
  rise_eq (ru_rise w _ _ _) (moves_rise w both) fun m => by rw [mem_ru, rc_none hok]
/-! ### Back again -/
theorem at_made {w : Tx} {m : Mv} (h1 : 0 ≤ m.1 ∧ m.1 < w.length) (h2 : 0 ≤ m.2 ∧ m.2 < w.length) (hne : m.1 ≠ m.2) (i : Int) : atF (madeF w m) i = if i = m.1 then 46 else if i = m.2 then atF w m.1 else atF w i := by
  by_cases hi : 0 ≤ i ∧ i < w.length
  · rw [atF_in (by rw [madeF_len]; exact hi), atF_in h1, atF_in hi]
    unfold madeF
    rw [List.getD_eq_getElem?_getD, List.getElem?_set]
    by_cases e1 : i = m.1
    · subst e1
      rw [if_pos rfl, if_pos rfl, if_pos (by rw [List.length_set]; omega)]; rfl
    · rw [if_neg e1, if_neg (by omega), List.getElem?_set]
      by_cases e2 : i = m.2
      · subst e2
        rw [if_pos rfl, if_pos rfl, if_pos (by omega)]; rfl
      · rw [if_neg e2, if_neg (by omega), List.getD_eq_getElem?_getD]
  · rw [atF_out (by rw [madeF_len]; exact hi), atF_out hi, if_neg (fun e : i = m.1 => hi (by rw [e]; exact h1)), if_neg (fun e : i = m.2 => hi (by rw [e]; exact h2))]
theorem at_ext {u v : Tx} (hl : u.length = v.length) (h : ∀ i : Int, atF u i = atF v i) : u = v := by
  apply List.ext_getElem hl
  intro i h1 h2
  have := h i
  rw [atF_in (by omega), atF_in (by omega), List.getD_eq_getElem?_getD, List.getD_eq_getElem?_getD, Int.toNat_natCast, List.getElem?_eq_getElem h1, List.getElem?_eq_getElem h2] at this
  exact this
def bkM (m : Mv) : Mv := (m.2, m.1)
theorem rc_ne {w : Tx} {o bk l : Bool} {m : Mv} (h : rcF w o bk l m = true) : m.1 ≠ m.2 := fun e => by
  obtain ⟨_, _, g3, g4, _⟩ := rc_iff.1 h
  rw [← e] at g4; exact g3 g4
theorem rc_back {w : Tx} {o l : Bool} {m : Mv} (h : rcF w o true l m = true) : rcF (madeF w m) o true l (bkM m) = true ∧ madeF (madeF w m) (bkM m) = w := by
  have hne := rc_ne h
  obtain ⟨g1, g2, g3, g4, g5, g6, g7⟩ := rc_iff.1 h
  have hat := at_made g1 g2 hne
  have hl := madeF_len w m
  constructor
  · unfold bkM
    refine rc_iff.2 ⟨by rw [hl]; exact g2, by rw [hl]; exact g1, ?_, ?_, .inl rfl, ?_, ?_⟩
    · simp only; rw [hat, if_neg (Ne.symm hne), if_pos rfl]; exact g3
    · simp only; rw [hat, if_pos rfl]
    · rcases g6 with e | e
      · exact .inl e
      · right; unfold farS at *; simp only; omega
    · intro k hk hf
      have hf' : k < farS m := by unfold farS at *; simp only at hf; omega
      have hm := mid_iff.1 (g7 (farS m - k) (by omega) (by omega))
      have hb := far_way m
      have hw : wayS (m.2, m.1) = - wayS m := by unfold wayS; simp only; split <;> split <;> omega
      have hws : wayS m = 1 ∨ wayS m = -1 := by unfold wayS; split <;> simp
      have hpos : m.2 + (k : Int) * wayS (m.2, m.1) = m.1 + ((farS m - k : Nat) : Int) * wayS m ∧ m.1 + ((farS m - k : Nat) : Int) * wayS m ≠ m.1 ∧ m.1 + ((farS m - k : Nat) : Int) * wayS m ≠ m.2 := by
        rw [hw]
        rcases hws with e | e <;> rw [e] at hb ⊢ <;> omega
      obtain ⟨hpos, hq1, hq2⟩ := hpos
      rw [mid_iff]
      simp only
      rw [hpos, hat, if_neg hq1, if_neg hq2, hat, if_neg (Ne.symm hne), if_pos rfl]
      exact hm
  · apply at_ext (by rw [madeF_len, madeF_len])
    intro i
    have hat2 := at_made (w := madeF w m) (m := bkM m) (by rw [hl]; exact g2) (by rw [hl]; exact g1) (Ne.symm hne) i
    rw [hat2]
    unfold bkM
    simp only
    by_cases e1 : i = m.2
    · subst e1; rw [if_pos rfl, g4]
    · rw [if_neg e1]
      by_cases e2 : i = m.1
      · subst e2; rw [if_pos rfl, hat, if_neg (Ne.symm hne), if_pos rfl]
      · rw [if_neg e2, hat, if_neg e2, if_neg e1]
theorem rc_made_ok {w : Tx} {o bk l : Bool} {m : Mv} (hok : w.all okCh = true) (h : rcF w o bk l m = true) : (madeF w m).all okCh = true := okCh_made hok (by have := (rc_iff.1 h).1; omega)
end Go.Proofs.YtaidpalamhmghaaDoor.X
