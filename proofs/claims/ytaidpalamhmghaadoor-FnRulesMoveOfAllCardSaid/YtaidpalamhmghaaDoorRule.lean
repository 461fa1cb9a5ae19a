/- Rules: the program's ParseRule and the reference's give the same, for all texts. No condition beyond the statement's. -/
import Derived.Test.YtaidpalamhmghaaDoorBase
import Derived.Test.YtaidpalamhmghaaDoorTrees
import Derived.Test.YtaidpalamhmghaaDoorLoop
namespace Go.Proofs.YtaidpalamhmghaaDoor.X
open Go.Proofs
set_option maxRecDepth 100000
set_option linter.unusedVariables false

theorem find_first {p : Nat → Bool} {n g : Nat} (hg : g < n) (h : p g = true) (hn : ∀ j, j < g → p j = false) : (List.range n).find? p = some g := by
  rw [List.find?_range_eq_some]
  exact ⟨h, by simpa using hg, fun j hj => by simp [hn j hj]⟩

theorem find_none {p : Nat → Bool} {n : Nat} (hn : ∀ j, j < n → p j = false) : (List.range n).find? p = none := by
  simp only [List.find?_eq_none, List.mem_range]
  intro j hj
  simp [hn j hj]

def ruleV (o b l : Bool) : V := .agg [.bool o, .bool b, .bool l]
def ruTx (o b l : Bool) : List UInt8 := match (if o then [111] else []) ++ ((if b then [98] else []) ++ (if l then [108] else [])) with
  | [] => [45]
  | t => t

theorem ruText_spec (o b l : Bool) : Spec Tryd.prog 75 [ruleV o b l] [] (isRes [.c (.str (ruTx o b l))] []) := by
  cases o <;> cases b <;> cases l <;>
  (refine Spec.of_wpx tt_ok Tryd.func75 (by kernel_rfl) rfl ?_
   (repeat' ((conv => whnf); first | refine CondVC.t ?_ | refine CondVC.f ?_ | refine CondVC.dec (fun h => ?_) (fun h => ?_) | refine CondVC.ndec (fun h => ?_) (fun h => ?_) | refine CondVC.mk (fun h => ?_) (fun h => ?_) | refine ArVC.i64 (by first | omega | (simp only; omega)) ?_ | refine SideVC.mk (by first | omega | decide | (simp only; omega) | (simp [slS]; done) | (simp [slS]; omega) | (simp only [byteE_len, mvE_len, strE_len, intE_len, esC_len, List.length_cons, List.length_nil, List.length_append, List.length_replicate, List.length_set, Int.toNat_natCast, and_true] at *; omega)) ?_ | refine LoopN.go ?_ | exact trivial | refine AltVC.mk ?_ ?_ | refine HeldVC.mk rfl ?_ | refine OpVC.more tt_ok ?_ | refine RestVC.ext tt_ok ?_)); all_goals (conv => whnf))
  all_goals first | exact RetVC.res rfl rfl | (exfalso; simp_all; done)

theorem implText_spec (o b l : Bool) : Spec Tryd.prog 74 [ruleV o b l] [] (isRes [.c (.str (ruTx o b l))] []) := by
  cases o <;> cases b <;> cases l <;>
  (refine Spec.of_wpx tt_ok Tryd.func74 (by kernel_rfl) rfl ?_
   (repeat' ((conv => whnf); first | refine CondVC.t ?_ | refine CondVC.f ?_ | refine CondVC.dec (fun h => ?_) (fun h => ?_) | refine CondVC.ndec (fun h => ?_) (fun h => ?_) | refine CondVC.mk (fun h => ?_) (fun h => ?_) | refine ArVC.i64 (by first | omega | (simp only; omega)) ?_ | refine SideVC.mk (by first | omega | decide | (simp only; omega) | (simp [slS]; done) | (simp [slS]; omega) | (simp only [byteE_len, mvE_len, strE_len, intE_len, esC_len, List.length_cons, List.length_nil, List.length_append, List.length_replicate, List.length_set, Int.toNat_natCast, and_true] at *; omega)) ?_ | refine LoopN.go ?_ | exact trivial | refine AltVC.mk ?_ ?_ | refine HeldVC.mk rfl ?_ | refine OpVC.more tt_ok ?_ | refine LoopVC.rounds 4 ?_ | refine LoadVC.mk _ rfl ?_ | refine OpVC.more tt_ok ?_ | refine RestVC.ext tt_ok ?_)); all_goals (conv => whnf))
  all_goals first | exact RetVC.res rfl rfl | (exfalso; simp_all; done)

/-- The rule number k, as both reckon it. -/
def bitK (k m : Int) : Bool := decide (0 < IntKind.i64.wrap ((BitVec.ofInt IntKind.i64.bits k &&& BitVec.ofInt IntKind.i64.bits m).toNat : Int))
def ruleK (k : Nat) : V := ruleV (bitK k 1) (bitK k 2) (bitK k 4)
def textK (k : Nat) : List UInt8 := ruTx (bitK k 1) (bitK k 2) (bitK k 4)
def parseF (s : List UInt8) : List V := match (List.range 8).find? fun k => decide (textK k = s) with
  | some k => [ruleK k, vb true]
  | none => [ruleV false false false, vb false]

theorem ruParse_spec (s : List UInt8) : Spec Tryd.prog 76 [.c (.str s)] [] (isRes (parseF s) []) := by
  refine Spec.of_wpx tt_ok Tryd.func76 (by kernel_rfl) rfl ?_
  (repeat' ((conv => whnf); first | refine CondVC.t ?_ | refine CondVC.f ?_ | refine CondVC.dec (fun h => ?_) (fun h => ?_) | refine CondVC.ndec (fun h => ?_) (fun h => ?_) | refine CondVC.mk (fun h => ?_) (fun h => ?_) | refine ArVC.i64 (by first | omega | (simp only; omega)) ?_ | refine SideVC.mk (by first | omega | decide | (simp only; omega) | (simp [slS]; done) | (simp [slS]; omega) | (simp only [byteE_len, mvE_len, strE_len, intE_len, esC_len, List.length_cons, List.length_nil, List.length_append, List.length_replicate, List.length_set, Int.toNat_natCast, and_true] at *; omega)) ?_ | refine LoopN.go ?_ | exact trivial | refine AltVC.mk ?_ ?_ | refine HeldVC.mk rfl ?_ | refine OpVC.more tt_ok ?_ | refine OpVC.more tt_ok ?_ | refine RestVC.ext tt_ok ?_)); all_goals (conv => whnf)
  refine LoopVC.mk (G := Nat) (fun k => ⟨[(4, .v (i64 k)), (3, .v (vb false)), (2, .v (.c (.ptr 2 0))), (0, .v (.c (.str s)))], [(2, .box 31 [.bool false, .bool false, .bool false])]⟩)
    (fun k => k ≤ 8 ∧ ∀ j, j < k → decide (textK j = s) = false) (fun k => 8 - k) 0 ⟨by omega, fun j hj => by omega⟩ (Sub.mk [] [] ⟨rfl, rfl, rfl, rfl, trivial⟩ rfl rfl) ?_
  intro k ⟨hk, hn⟩
  (repeat' ((conv => whnf); first | refine CondVC.t ?_ | refine CondVC.f ?_ | refine CondVC.dec (fun h => ?_) (fun h => ?_) | refine CondVC.ndec (fun h => ?_) (fun h => ?_) | refine CondVC.mk (fun h => ?_) (fun h => ?_) | refine ArVC.i64 (by first | omega | (simp only; omega)) ?_ | refine SideVC.mk (by first | omega | decide | (simp only; omega) | (simp [slS]; done) | (simp [slS]; omega) | (simp only [byteE_len, mvE_len, strE_len, intE_len, esC_len, List.length_cons, List.length_nil, List.length_append, List.length_replicate, List.length_set, Int.toNat_natCast, and_true] at *; omega)) ?_ | refine LoopN.go ?_ | exact trivial | refine AltVC.mk ?_ ?_ | refine HeldVC.mk rfl ?_ | refine OpVC.more tt_ok ?_ | refine CallVC.pure (ruText_spec _ _ _) rfl ?_ | refine OpVC.more tt_ok ?_ | refine RestVC.ext tt_ok ?_)); all_goals (conv => whnf)
  · exact RetVC.res (by rw [parseF, find_first (g := k) (by omega) (decide_eq_true h) hn]; rfl) rfl
  · refine ⟨k + 1, ⟨by omega, fun j hj => ?_⟩, by omega, Sub.mk [] [(5, _)] ⟨rfl, rfl, rfl, rfl, trivial⟩ rfl rfl⟩
    by_cases hjk : j = k
    · subst hjk; exact decide_eq_false h
    · exact hn j (by omega)
  · exact RetVC.res (by rw [parseF, find_none (fun j hj => hn j (by omega))]; rfl) rfl

theorem implParse_spec (s : List UInt8) : Spec Tryd.prog 27 [.c (.str s)] [] (isRes (parseF s) []) := by
  refine Spec.of_wpx tt_ok Tryd.func27 (by kernel_rfl) rfl ?_
  (repeat' ((conv => whnf); first | refine CondVC.t ?_ | refine CondVC.f ?_ | refine CondVC.dec (fun h => ?_) (fun h => ?_) | refine CondVC.ndec (fun h => ?_) (fun h => ?_) | refine CondVC.mk (fun h => ?_) (fun h => ?_) | refine ArVC.i64 (by first | omega | (simp only; omega)) ?_ | refine SideVC.mk (by first | omega | decide | (simp only; omega) | (simp [slS]; done) | (simp [slS]; omega) | (simp only [byteE_len, mvE_len, strE_len, intE_len, esC_len, List.length_cons, List.length_nil, List.length_append, List.length_replicate, List.length_set, Int.toNat_natCast, and_true] at *; omega)) ?_ | refine LoopN.go ?_ | exact trivial | refine AltVC.mk ?_ ?_ | refine HeldVC.mk rfl ?_ | refine OpVC.more tt_ok ?_ | refine OpVC.more tt_ok ?_ | refine RestVC.ext tt_ok ?_)); all_goals (conv => whnf)
  refine LoopVC.mk (G := Nat) (fun k => ⟨[(6, .v (i64 k)), (3, .v (vb false)), (2, .v (.c (.ptr 2 0))), (0, .v (.c (.str s)))], [(2, .box 31 [.bool false, .bool false, .bool false])]⟩)
    (fun k => k ≤ 8 ∧ ∀ j, j < k → decide (textK j = s) = false) (fun k => 8 - k) 0 ⟨by omega, fun j hj => by omega⟩ (Sub.mk [] [] ⟨rfl, rfl, rfl, rfl, trivial⟩ rfl rfl) ?_
  intro k ⟨hk, hn⟩
  (repeat' ((conv => whnf); first | refine CondVC.t ?_ | refine CondVC.f ?_ | refine CondVC.dec (fun h => ?_) (fun h => ?_) | refine CondVC.ndec (fun h => ?_) (fun h => ?_) | refine CondVC.mk (fun h => ?_) (fun h => ?_) | refine ArVC.i64 (by first | omega | (simp only; omega)) ?_ | refine SideVC.mk (by first | omega | decide | (simp only; omega) | (simp [slS]; done) | (simp [slS]; omega) | (simp only [byteE_len, mvE_len, strE_len, intE_len, esC_len, List.length_cons, List.length_nil, List.length_append, List.length_replicate, List.length_set, Int.toNat_natCast, and_true] at *; omega)) ?_ | refine LoopN.go ?_ | exact trivial | refine AltVC.mk ?_ ?_ | refine HeldVC.mk rfl ?_ | refine OpVC.more tt_ok ?_ | refine CallVC.pure (implText_spec _ _ _) rfl ?_ | refine OpVC.more tt_ok ?_ | refine RestVC.ext tt_ok ?_)); all_goals (conv => whnf)
  · exact RetVC.res (by rw [parseF, find_first (g := k) (by omega) (decide_eq_true h) hn]; rfl) rfl
  · refine ⟨k + 1, ⟨by omega, fun j hj => ?_⟩, by omega, Sub.mk [] [(5, _)] ⟨rfl, rfl, rfl, rfl, trivial⟩ rfl rfl⟩
    by_cases hjk : j = k
    · subst hjk; exact decide_eq_false h
    · exact hn j (by omega)
  · exact RetVC.res (by rw [parseF, find_none (fun j hj => hn j (by omega))]; rfl) rfl

theorem parseF_form (s : List UInt8) : ∃ o b l k, parseF s = [ruleV o b l, vb k] := by
  unfold parseF
  split
  · exact ⟨_, _, _, _, rfl⟩
  · exact ⟨_, _, _, _, rfl⟩

theorem specParse_spec (s : List UInt8) : Spec Tryd.prog 28 [.c (.str s)] [] (isRes (parseF s) []) := by
  obtain ⟨o, b, l, k, h⟩ := parseF_form s
  rw [h]
  refine Spec.of_wpx tt_ok Tryd.func28 (by kernel_rfl) rfl ?_
  (repeat' ((conv => whnf); first | refine CondVC.t ?_ | refine CondVC.f ?_ | refine CondVC.dec (fun h => ?_) (fun h => ?_) | refine CondVC.ndec (fun h => ?_) (fun h => ?_) | refine CondVC.mk (fun h => ?_) (fun h => ?_) | refine ArVC.i64 (by first | omega | (simp only; omega)) ?_ | refine SideVC.mk (by first | omega | decide | (simp only; omega) | (simp [slS]; done) | (simp [slS]; omega) | (simp only [byteE_len, mvE_len, strE_len, intE_len, esC_len, List.length_cons, List.length_nil, List.length_append, List.length_replicate, List.length_set, Int.toNat_natCast, and_true] at *; omega)) ?_ | refine LoopN.go ?_ | exact trivial | refine AltVC.mk ?_ ?_ | refine HeldVC.mk rfl ?_ | refine CallVC.pure (h ▸ ruParse_spec s) rfl ?_ | refine OpVC.more tt_ok ?_ | refine RestVC.ext tt_ok ?_)); all_goals (conv => whnf)
  all_goals exact RetVC.res rfl rfl


end Go.Proofs.YtaidpalamhmghaaDoor.X
