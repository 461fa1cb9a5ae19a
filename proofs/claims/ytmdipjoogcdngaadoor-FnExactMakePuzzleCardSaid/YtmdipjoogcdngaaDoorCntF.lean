/- How many lines there are with each outcome. No condition. -/
import Derived.Test.YtmdipjoogcdngaaDoorGame
namespace Go.Proofs.YtmdipjoogcdngaaDoor.X
set_option linter.unusedVariables false
set_option linter.unusedSimpArgs false

/-- The index of a line's outcome. -/
def outI (w : Tx) : Nat := if winF w true && winF w false then 0 else if winF w true then 3 else if winF w false then 2 else 1
def outS : Nat → Tx
  | 0 => [49]
  | 1 => [50]
  | 2 => [70]
  | _ => [84]
theorem outI_lt (w : Tx) : outI w < 4 := by unfold outI; split <;> (try split) <;> (try split) <;> omega
theorem outI_S (w : Tx) : outF (winF w true) (winF w false) = outS (outI w) := by
  unfold outF outI
  cases winF w true <;> cases winF w false <;> rfl
theorem outS_inj {a b : Nat} (ha : a < 4) (hb : b < 4) : outS a = outS b ↔ a = b := by
  have : ∀ a b : Fin 4, outS a.val = outS b.val ↔ a.val = b.val := by decide
  exact this ⟨a, ha⟩ ⟨b, hb⟩
/-- How many lines that begin so, and go on with so many of each, have the outcome k. -/
def cK (k : Nat) : Nat → Tx → Nat → Nat → Nat → Nat
  | 0, w, _, _, _ => if outI w = k then 1 else 0
  | n + 1, w, t, g, f => (if 0 < t then cK k n (w ++ [84]) (t - 1) g f else 0) + (if 0 < g then cK k n (w ++ [46]) t (g - 1) f else 0) + (if 0 < f then cK k n (w ++ [70]) t g (f - 1) else 0)
theorem cK_le (k : Nat) : ∀ (n : Nat) (w : Tx) (t g f : Nat), cK k n w t g f ≤ 3 ^ n
  | 0, w, t, g, f => by unfold cK; split <;> simp
  | n + 1, w, t, g, f => by
    have h1 := cK_le k n (w ++ [84]) (t - 1) g f
    have h2 := cK_le k n (w ++ [46]) t (g - 1) f
    have h3 := cK_le k n (w ++ [70]) t g (f - 1)
    unfold cK
    rw [Nat.pow_succ]
    split <;> split <;> split <;> omega
/-- The counts as a row. -/
def cR (c : Nat → Int) : List (List C) := (List.range 4).map fun k => [C.int .i64 (c k)]
theorem cR_len (c : Nat → Int) : (cR c).length = 4 := by simp [cR]
theorem cR_get (c : Nat → Int) {i : Nat} (h : i < 4) : (cR c)[i]? = some [.int .i64 (c i)] := by simp [cR, h]
theorem cR_set (c : Nat → Int) {i : Nat} (v : Int) (h : i < 4) : (cR c).set i [.int .i64 v] = cR (fun k => if k = i then v else c k) := by
  apply List.ext_getElem
  · simp [cR]
  · intro j h1 h2
    rw [List.getElem_set]
    simp only [cR, List.getElem_map, List.getElem_range]
    by_cases e : i = j
    · subst e; simp
    · rw [if_neg e, if_neg (Ne.symm e)]
theorem cR_congr {c d : Nat → Int} (h : ∀ k, k < 4 → c k = d k) : cR c = cR d := by
  unfold cR
  refine List.map_congr_left fun k hk => ?_
  rw [h k (by simpa using hk)]
end Go.Proofs.YtmdipjoogcdngaaDoor.X
