/- The two ways of reading a puzzle's text agree: plain law. No condition. -/
import Derived.Test.YtaidpalamhmghaaDoorPs
namespace Go.Proofs.YtaidpalamhmghaaDoor.X
open Go.Proofs
set_option maxRecDepth 100000
set_option linter.unusedVariables false
set_option linter.unusedSimpArgs false

theorem atoi_num {n : Int} (h : 0 ≤ n ∧ n ≤ 10) : atoF (numT n) = n := by
  rcases n10 h with e | e | e | e | e | e | e | e | e | e | e <;> subst e <;> decide +kernel
theorem rd_num {n : Int} (h : 0 ≤ n ∧ n ≤ 10) : rdF (numT n) = n := by
  rcases n10 h with e | e | e | e | e | e | e | e | e | e | e <;> subst e <;> decide +kernel
theorem num_not {n : Int} (h : 0 ≤ n ∧ n ≤ 10) : (44 : UInt8) ∉ numT n ∧ (46 : UInt8) ∉ numT n ∧ (58 : UInt8) ∉ numT n := by
  rcases n10 h with e | e | e | e | e | e | e | e | e | e | e <;> subst e <;> decide +kernel
theorem idx_app (b : UInt8) (v : Tx) : ∀ u : Tx, b ∉ u → Lib.indexByte (u ++ b :: v) b = (u.length : Nat)
  | [], _ => by simp [Lib.indexByte]
  | c :: r, h => by
    simp only [List.mem_cons, not_or] at h
    have ih := idx_app b v r h.2
    have hc : (c == b) = false := by rw [beq_eq_false_iff_ne]; exact fun e => h.1 e.symm
    show Lib.indexByte (c :: (r ++ b :: v)) b = _
    unfold Lib.indexByte
    rw [hc, ih]
    have hj : (((r.length : Nat) : Int) == -1) = false := by rw [beq_eq_false_iff_ne]; omega
    simp only [Bool.false_eq_true, if_false, hj, List.length_cons]
    push_cast; rfl
theorem spl_joined (b : UInt8) : ∀ L : List Tx, L ≠ [] → (∀ p ∈ L, b ∉ p) → spl b (Lib.join L [b]) = L
  | [], h, _ => absurd rfl h
  | [p], _, hp => by
    have : Lib.join [p] [b] = p := by simp [Lib.join]
    rw [this]; exact spl_none (hp p (by simp))
  | p :: q :: L, _, hp => by
    have ih := spl_joined b (q :: L) (by simp) (fun x hx => hp x (by simp [hx]))
    have e : Lib.join (p :: q :: L) [b] = p ++ b :: Lib.join (q :: L) [b] := by simp [Lib.join]
    rw [e, spl_app (hp p (by simp)), ih]
theorem join_not (b c : UInt8) (hbc : b ≠ c) : ∀ L : List Tx, (∀ p ∈ L, b ∉ p) → b ∉ Lib.join L [c]
  | [], _ => by simp [Lib.join]
  | [p], hp => by
    have : Lib.join [p] [c] = p := by simp [Lib.join]
    rw [this]; exact hp p (by simp)
  | p :: q :: L, hp => by
    have ih := join_not b c hbc (q :: L) (fun x hx => hp x (by simp [hx]))
    have e : Lib.join (p :: q :: L) [c] = p ++ c :: Lib.join (q :: L) [c] := by simp [Lib.join]
    rw [e]
    simp only [List.mem_append, List.mem_cons, not_or]
    exact ⟨hp p (by simp), hbc, ih⟩
theorem clT_eq (c : Cl) : clT c = numT c.1 ++ 46 :: (numT c.2.1 ++ 46 :: numT c.2.2) := by simp [clT]
theorem clT_spl {c : Cl} (h : (0 ≤ c.1 ∧ c.1 ≤ 10) ∧ (0 ≤ c.2.1 ∧ c.2.1 ≤ 10) ∧ (0 ≤ c.2.2 ∧ c.2.2 ≤ 10)) : spl 46 (clT c) = [numT c.1, numT c.2.1, numT c.2.2] := by
  rw [clT_eq, spl_app (num_not h.1).2.1, spl_app (num_not h.2.1).2.1, spl_none (num_not h.2.2).2.1]
theorem clT_not {c : Cl} (h : (0 ≤ c.1 ∧ c.1 ≤ 10) ∧ (0 ≤ c.2.1 ∧ c.2.1 ≤ 10) ∧ (0 ≤ c.2.2 ∧ c.2.2 ≤ 10)) : (44 : UInt8) ∉ clT c ∧ (58 : UInt8) ∉ clT c := by
  rw [clT_eq]
  have h1 := num_not h.1
  have h2 := num_not h.2.1
  have h3 := num_not h.2.2
  simp only [List.mem_append, List.mem_cons, not_or]
  exact ⟨⟨h1.1, by decide, h2.1, by decide, h3.1⟩, ⟨h1.2.2, by decide, h2.2.2, by decide, h3.2.2⟩⟩
theorem cls_map (f : Tx → Int) (hf : ∀ n : Int, 0 ≤ n ∧ n ≤ 10 → f (numT n) = n) : ∀ l : List Cl, (∀ c ∈ l, (0 ≤ c.1 ∧ c.1 ≤ 10) ∧ (0 ≤ c.2.1 ∧ c.2.1 ≤ 10) ∧ (0 ≤ c.2.2 ∧ c.2.2 ≤ 10)) → clsW f (l.map clT) = l
  | [], _ => rfl
  | c :: l, h => by
    have ih := cls_map f hf l (fun x hx => h x (by simp [hx]))
    have hc := h c (by simp)
    have e : clW f (clT c) = [c] := by
      unfold clW
      rw [clT_spl hc]
      simp only [hf _ hc.1, hf _ hc.2.1, hf _ hc.2.2]
    unfold clsW at ih ⊢
    rw [List.map_cons, List.flatMap_cons, e, ih]; rfl
theorem pz_len (n : Int) (l : List Cl) (hl : l.length ≤ 6) : (pzT n l).length ≤ 100 := by
  have h1 := numT_len n
  have h2 := join_len8 l l.length
  rw [List.take_of_length_le (by simp)] at h2
  unfold pzT
  simp only [List.length_append, List.length_cons, List.length_nil]
  omega
/-- A good puzzle's text is read as that puzzle, both ways. -/
theorem read_pz {n : Int} {l : List Cl} (hg : goodF n l = true) : ppS (pzT n l) = some (n, l) ∧ ppN (pzT n l) = n ∧ ppL (pzT n l) = l := by
  obtain ⟨hn, hl6⟩ := good_n hg
  have hall := good_all hg
  have hr : ∀ c ∈ l, (0 ≤ c.1 ∧ c.1 ≤ 10) ∧ (0 ≤ c.2.1 ∧ c.2.1 ≤ 10) ∧ (0 ≤ c.2.2 ∧ c.2.2 ≤ 10) := fun c hc => cl_nums hn (hall c hc)
  have hn10 : 0 ≤ n ∧ n ≤ 10 := by omega
  have hlen := pz_len n l hl6
  obtain ⟨J, hJ⟩ : ∃ J, J = Lib.join (l.map clT) [44] := ⟨_, rfl⟩
  have hpz : pzT n l = numT n ++ 58 :: J := by unfold pzT; rw [hJ]; simp
  have hJ58 : (58 : UInt8) ∉ J := by
    rw [hJ]; exact join_not 58 44 (by decide) _ fun p hp => by
      obtain ⟨c, hc, rfl⟩ := List.mem_map.1 hp; exact (clT_not (hr c hc)).2
  have hJs : l ≠ [] → spl 44 J = l.map clT := fun h => by
    rw [hJ]; exact spl_joined 44 _ (by simpa using h) fun p hp => by
      obtain ⟨c, hc, rfl⟩ := List.mem_map.1 hp; exact (clT_not (hr c hc)).1
  have hne : l ≠ [] → J ≠ [] := fun h e => by
    have h1 := hJs h
    rw [e] at h1
    obtain ⟨c, l', rfl⟩ : ∃ c l', l = c :: l' := by cases l with | nil => exact absurd rfl h | cons c l' => exact ⟨c, l', rfl⟩
    simp only [spl, List.map_cons, List.cons.injEq] at h1
    have := congrArg List.length h1.1
    rw [clT_eq] at this
    simp at this
  have hix := idx_app 58 J (numT n) (num_not hn10).2.2
  rw [← hpz] at hix
  have hH : cutH 58 (pzT n l) = numT n := by
    unfold cutH
    rw [hix, if_neg (by omega), Int.toNat_natCast, hpz]; simp
  have hR : cutR 58 (pzT n l) = J := by
    unfold cutR
    rw [hix, if_neg (by omega), Int.toNat_natCast, hpz, List.drop_append]; simp
  refine ⟨?_, by unfold ppN; rw [hH, atoi_num hn10], ?_⟩
  · unfold ppS
    rw [if_pos hlen, hpz, spl_app (num_not hn10).2.2, spl_none hJ58]
    show ppR (numT n) J = _
    unfold ppR
    by_cases h : l = []
    · subst h
      have : J = [] := by rw [hJ]; rfl
      rw [if_pos this, rd_num hn10]
    · rw [if_neg (hne h), hJs h, rd_num hn10, cls_map rdF (fun n h => rd_num h) l hr, if_pos]
      rw [List.all_eq_true]
      intro w hw
      obtain ⟨c, hc, rfl⟩ := List.mem_map.1 hw
      unfold w3; rw [clT_spl (hr c hc)]; rfl
  · unfold ppL
    rw [hR]
    by_cases h : l = []
    · subst h
      have : J = [] := by rw [hJ]; rfl
      rw [this]; rfl
    · rw [hJs h, cls_map atoF (fun n h => atoi_num h) l hr]

theorem ok_agree (s : Tx) : okI s = okS s ∧ (okI s = true → ppN s = nS s ∧ ppL s = lS s) := by
  have A : okI s = true → okS s = true ∧ ppN s = nS s ∧ ppL s = lS s := fun h => by
    unfold okI at h
    simp only [Bool.and_eq_true, decide_eq_true_eq] at h
    obtain ⟨h1, h2, h3⟩ := h
    obtain ⟨r1, _, _⟩ := read_pz h2
    rw [h3] at r1
    refine ⟨?_, by simp [nS, r1], by simp [lS, r1]⟩
    simp only [okS, r1, h2, Bool.true_and, decide_eq_true_eq]; exact h3
  have B : okS s = true → okI s = true := fun h => by
    unfold okS at h
    cases hp : ppS s with
    | none => rw [hp] at h; cases h
    | some p =>
      rw [hp] at h
      simp only [Bool.and_eq_true, decide_eq_true_eq] at h
      obtain ⟨h2, h3⟩ := h
      obtain ⟨_, r2, r3⟩ := read_pz h2
      have hl := pz_len p.1 p.2 (good_n h2).2
      rw [h3] at r2 r3 hl
      unfold okI
      rw [r2, r3, h2, decide_eq_true hl, decide_eq_true h3]; rfl
  refine ⟨?_, fun h => (A h).2⟩
  cases hi : okI s with
  | true => exact (A hi).1.symm
  | false =>
    cases hs : okS s with
    | true => rw [B hs] at hi; cases hi
    | false => rfl
theorem n_agree (s : Tx) : (if okI s then ppN s else 0) = (if okS s then nS s else 0) := by
  obtain ⟨h1, h2⟩ := ok_agree s
  rw [← h1]
  cases h : okI s with
  | true => rw [if_pos rfl, if_pos rfl]; exact (h2 h).1
  | false => rfl
theorem l_agree (s : Tx) : (if okI s then ppL s else []) = (if okS s then lS s else []) := by
  obtain ⟨h1, h2⟩ := ok_agree s
  rw [← h1]
  cases h : okI s with
  | true => rw [if_pos rfl, if_pos rfl]; exact (h2 h).2
  | false => rfl
theorem l_len (s : Tx) : (if okI s then ppL s else []).length ≤ 6 := by
  cases h : okI s with
  | true =>
    rw [if_pos rfl]
    unfold okI at h
    simp only [Bool.and_eq_true, decide_eq_true_eq] at h
    exact (good_n h.2.1).2
  | false => simp
end Go.Proofs.YtaidpalamhmghaaDoor.X
