/- First boards. No condition beyond each statement's. -/
import Derived.Test.YtblihaicbhdbdaaDoorBoardF
import Derived.Test.YtblihaicbhdbdaaDoorJoin
namespace Go.Proofs.YtblihaicbhdbdaaDoor.X
open Go.Proofs
set_option maxRecDepth 100000
set_option linter.unusedVariables false
set_option linter.unusedSimpArgs false

theorem u8_84' (b : UInt8) : (((b.toNat : Nat) : Int) = 84) ↔ b = 84 := by
  constructor
  · intro h
    apply UInt8.toNat.inj
    have : b.toNat = 84 := by omega
    exact this
  · rintro rfl; rfl
theorem u8_70' (b : UInt8) : (((b.toNat : Nat) : Int) = 70) ↔ b = 70 := by
  constructor
  · intro h
    apply UInt8.toNat.inj
    have : b.toNat = 70 := by omega
    exact this
  · rintro rfl; rfl



theorem rowsF_succ {a b : UInt8} {w h : Nat} (k : Nat) : strE ((List.range (k + 1)).map (rowF a b w h)) = strE ((List.range k).map (rowF a b w h)) ++ [[.str (rowF a b w h k)]] := by
  rw [List.range_succ, List.map_append, strE_append]; rfl

/-! ### The program's -/
theorem enc84 : (Utf8.encode (84 : Int)).data.toList = [84] := by decide
theorem enc70 : (Utf8.encode (70 : Int)).data.toList = [70] := by decide
theorem enc46 : (Utf8.encode (46 : Int)).data.toList = [46] := by decide

theorem midF_cs (g k : Nat) : midF 84 70 g k = 84 ∨ midF 84 70 g k = 46 ∨ midF 84 70 g k = 70 := by
  unfold midF
  split
  · exact .inl rfl
  · split
    · exact .inr (.inl rfl)
    · exact .inr (.inr rfl)
def cellsTo (w g k : Nat) : Tx := ((List.range k).map (rowF 84 70 w g)).flatten
theorem cellsTo_succ (w g k : Nat) : cellsTo w g (k + 1) = cellsTo w g k ++ rowF 84 70 w g k := by
  unfold cellsTo
  rw [List.range_succ, List.map_append, List.flatten_append]
  simp
theorem cellsTo_len (w g k : Nat) : (cellsTo w g k).length = k * (2 * w + 1) := by
  induction k with
  | zero => simp [cellsTo]
  | succ k ih => rw [cellsTo_succ, List.length_append, ih, rowF_len, Nat.add_mul, Nat.one_mul]


def halvesF (w h : Int) : Bool := decide (0 ≤ w ∧ w ≤ 2) && decide (0 ≤ h ∧ h ≤ 2)
theorem halves_nat {w h : Int} (hq : halvesF w h = true) : ∃ m n : Nat, w = m ∧ h = n ∧ m ≤ 2 ∧ n ≤ 2 := by
  simp only [halvesF, Bool.and_eq_true, decide_eq_true_eq] at hq
  exact ⟨w.toNat, h.toNat, by omega, by omega, by omega, by omega⟩
def boardAskF (a b : UInt8) (w h : Int) : Tx := if halvesF w h then Lib.join (rowsF a b w.toNat h.toNat) [47] else []

/-! ### Last boards -/
theorem other_spec2 (b : UInt8) : Spec Tryd.prog 74 [.c (.int .u8 (b.toNat : Nat))] [] (isRes [.c (.int .u8 ((otherF b).toNat : Nat))] []) := by
  refine Spec.of_wpx tt_ok Tryd.func74 (by kernel_rfl) rfl ?_
  (repeat' ((conv => whnf); first | refine CondVC.t ?_ | refine CondVC.f ?_ | refine CondVC.dec (fun h => ?_) (fun h => ?_) | refine CondVC.ndec (fun h => ?_) (fun h => ?_) | refine CondVC.mk (fun h => ?_) (fun h => ?_) | refine ArVC.i64 (by first | omega | (simp only; omega)) ?_ | refine SideVC.mk (by first | omega | decide | (simp only; omega) | (simp [slS]; done) | (simp [slS]; omega) | (simp only [byteE_len, mvE_len, strE_len, intE_len, esC_len, List.length_cons, List.length_nil, List.length_append, List.length_replicate, List.length_set, Int.toNat_natCast, and_true] at *; omega)) ?_ | refine LoopN.go ?_ | exact trivial | refine AltVC.mk ?_ ?_ | refine HeldVC.mk rfl ?_ | refine OpVC.more tt_ok ?_ | refine RestVC.ext tt_ok ?_)); all_goals (conv => whnf)
  all_goals simp only [u8_84', u8_70'] at *
  all_goals exact RetVC.res (by simp [otherF, *]) rfl
theorem board_len (a b : UInt8) (w h : Int) : (boardAskF a b w h).length ≤ 1000000 := by
  unfold boardAskF
  by_cases hq : halvesF w h = true
  · obtain ⟨m, n, rfl, rfl, hm, hn⟩ := halves_nat hq
    rw [if_pos hq]
    simp only [Int.toNat_natCast]
    have hjl : ∀ (rows : List Tx) k, (∀ r ∈ rows, r.length ≤ 10) → k ≤ rows.length → (Lib.join (rows.take k) [47]).length ≤ 2000 * k := by
      intro rows k hr
      induction k with
      | zero => intro _; simp [Lib.join_nil]
      | succ k ih =>
        intro hk
        rw [join_step (by omega)]
        have := ih (by omega)
        have := hr _ (List.getElem_mem (show k < rows.length by omega))
        split
        · omega
        · simp; omega
    have := hjl (rowsF a b m n) (rowsF a b m n).length (fun r hr => by
      obtain ⟨k, _, rfl⟩ := List.mem_map.1 hr
      rw [rowF_len]; omega) (Nat.le_refl _)
    rw [List.take_length, rowsF_len] at this
    omega
  · rw [if_neg hq]; simp
theorem board_other (w h : Int) : (boardAskF 84 70 w h).map otherF = boardAskF 70 84 w h := by
  unfold boardAskF
  by_cases hq : halvesF w h = true
  · rw [if_pos hq, if_pos hq, join_map, rowsF_other]; rfl
  · rw [if_neg hq, if_neg hq]; rfl
end Go.Proofs.YtblihaicbhdbdaaDoor.X
