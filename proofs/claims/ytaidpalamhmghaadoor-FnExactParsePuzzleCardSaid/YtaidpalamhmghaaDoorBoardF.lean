/- Boards of toads and frogs: rows of a first board, joined and cut. No condition. -/
import Derived.Test.YtaidpalamhmghaaDoorLineF
import Derived.Lib.Join
namespace Go.Proofs.YtaidpalamhmghaaDoor.X
set_option linter.unusedVariables false
set_option linter.unusedSimpArgs false

def rep (s : Tx) (n : Nat) : Tx := (List.replicate n s).flatten
theorem rep_succ (s : Tx) (n : Nat) : rep s (n + 1) = rep s n ++ s := by
  unfold rep
  rw [List.replicate_succ', List.flatten_append]
  simp
theorem rep_len (s : Tx) (n : Nat) : (rep s n).length = n * s.length := by
  induction n with
  | zero => simp [rep]
  | succ n ih => rw [rep_succ, List.length_append, ih, Nat.succ_mul]
def midF (a b : UInt8) (h k : Nat) : UInt8 := if k < h then a else if k = h then 46 else b
def rowF (a b : UInt8) (w h k : Nat) : Tx := rep [a] w ++ [midF a b h k] ++ rep [b] w
def rowsF (a b : UInt8) (w h : Nat) : List Tx := (List.range (2 * h + 1)).map (rowF a b w h)
theorem rowF_len (a b : UInt8) (w h k : Nat) : (rowF a b w h k).length = 2 * w + 1 := by
  unfold rowF
  simp only [List.length_append, rep_len, List.length_cons, List.length_nil]
  omega
theorem rowsF_len (a b : UInt8) (w h : Nat) : (rowsF a b w h).length = 2 * h + 1 := by simp [rowsF]
theorem rep_map (f : UInt8 → UInt8) (s : Tx) (n : Nat) : (rep s n).map f = rep (s.map f) n := by
  induction n with
  | zero => rfl
  | succ n ih => rw [rep_succ, rep_succ, List.map_append, ih]
theorem rowsF_other (w h : Nat) : (rowsF 84 70 w h).map (List.map otherF) = rowsF 70 84 w h := by
  unfold rowsF
  rw [List.map_map]
  apply List.map_congr_left
  intro k hk
  unfold rowF
  simp only [Function.comp_apply, List.map_append, rep_map, List.map_cons, List.map_nil]
  have e1 : otherF 84 = 70 := by decide
  have e2 : otherF 70 = 84 := by decide
  rw [e1, e2]
  congr 2
  unfold midF
  split
  · rw [e1]
  · split
    · rfl
    · rw [e2]
/-- The signs down the middle. -/
def colF (h : Nat) : Tx := rep [84] h ++ rep [46] 1 ++ rep [70] h
theorem rep1_get {c : UInt8} {n k : Nat} (h : k < n) : (rep [c] n)[k]? = some c := by
  have : rep [c] n = List.replicate n c := by
    induction n with
    | zero => rfl
    | succ n ih =>
      rw [rep_succ, List.replicate_succ']
      by_cases e : k < n
      · rw [ih e]
      · have : ∀ m, rep [c] m = List.replicate m c := by
          intro m
          induction m with
          | zero => rfl
          | succ m ih => rw [rep_succ, List.replicate_succ', ih]
        rw [this]
  rw [this, List.getElem?_replicate, if_pos h]
theorem colF_len (h : Nat) : (colF h).length = 2 * h + 1 := by
  unfold colF; simp only [List.length_append, rep_len, List.length_cons, List.length_nil]; omega
theorem colF_get {h k : Nat} (hk : k < 2 * h + 1) : (colF h).getD k 0 = midF 84 70 h k := by
  unfold colF midF
  rw [List.getD_eq_getElem?_getD]
  by_cases h1 : k < h
  · rw [if_pos h1, List.getElem?_append_left (by simp [rep_len]; omega), List.getElem?_append_left (by simp [rep_len]; omega), rep1_get h1]; rfl
  · rw [if_neg h1]
    by_cases h2 : k = h
    · subst h2
      rw [if_pos rfl, List.getElem?_append_left (by simp [rep_len]), List.getElem?_append_right (by simp [rep_len])]
      simp [rep_len, rep]
    · rw [if_neg h2, List.getElem?_append_right (by simp [rep_len]; omega), rep1_get (by simp [rep_len]; omega)]; rfl

theorem join_step {rows : List Tx} {sep : Tx} {k : Nat} (h : k < rows.length) : Lib.join (rows.take (k + 1)) sep = if k = 0 then rows[k] else Lib.join (rows.take k) sep ++ sep ++ rows[k] := by
  cases rows with
  | nil => simp at h
  | cons r rs =>
    cases k with
    | zero => simp [Lib.join_one]
    | succ k =>
      rw [if_neg (by omega), List.take_succ_cons, List.take_succ_cons, Lib.join_cons, Lib.join_cons, Lib.joinTail_take_succ sep rs k (rs[k]'(by simpa using h)) (List.getElem?_eq_getElem _)]
      simp [List.append_assoc]
theorem joinTail_map (f : UInt8 → UInt8) (sep : Tx) (rs : List Tx) : (Lib.joinTail sep rs).map f = Lib.joinTail (sep.map f) (rs.map (List.map f)) := by
  unfold Lib.joinTail
  rw [List.map_flatten, List.map_map, List.map_map]
  congr 1
  apply List.map_congr_left
  intro r hr
  simp
theorem join_map (f : UInt8 → UInt8) (sep : Tx) (rows : List Tx) : (Lib.join rows sep).map f = Lib.join (rows.map (List.map f)) (sep.map f) := by
  cases rows with
  | nil => rfl
  | cons r rs => rw [Lib.join_cons, List.map_append, joinTail_map, List.map_cons, Lib.join_cons]

theorem flatten_len {rows : List Tx} {n : Nat} (h : ∀ r ∈ rows, r.length = n) : rows.flatten.length = rows.length * n := by
  induction rows with
  | nil => simp
  | cons r rs ih =>
    rw [List.flatten_cons, List.length_append, ih fun x hx => h x (List.mem_cons_of_mem _ hx), h r List.mem_cons_self, List.length_cons, Nat.succ_mul]; omega
theorem flatten_cut : ∀ {rows : List Tx} {n k : Nat} (h : ∀ r ∈ rows, r.length = n) (hk : k < rows.length), (rows.flatten.take (k * n + n)).drop (k * n) = rows[k]
  | r :: rs, n, 0, h, hk => by
    have := h r List.mem_cons_self
    simp [List.flatten_cons, ← this]
  | r :: rs, n, k + 1, h, hk => by
    have hr := h r List.mem_cons_self
    have ih := flatten_cut (rows := rs) (n := n) (k := k) (fun x hx => h x (List.mem_cons_of_mem _ hx)) (by simpa using hk)
    rw [List.flatten_cons, show (k + 1) * n + n = r.length + (k * n + n) by rw [hr, Nat.succ_mul]; omega, show (k + 1) * n = r.length + k * n by rw [hr, Nat.succ_mul]; omega]
    rw [List.take_length_add_append, List.drop_length_add_append, ih]
    rfl
end Go.Proofs.YtaidpalamhmghaaDoor.X
