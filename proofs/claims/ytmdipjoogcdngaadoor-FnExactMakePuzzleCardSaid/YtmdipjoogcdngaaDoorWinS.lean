/- Who wins: the reference's games with their memo. No condition beyond each statement's. -/
import Derived.Test.YtmdipjoogcdngaaDoorWin
namespace Go.Proofs.YtmdipjoogcdngaaDoor.X
open Go.Proofs
set_option maxRecDepth 100000
set_option linter.unusedVariables false
set_option linter.unusedSimpArgs false

def boolE (l : List Bool) : List (List C) := l.map fun b => [.bool b]
theorem boolE_len (l : List Bool) : (boolE l).length = l.length := by simp [boolE]
theorem boolE_append (l l' : List Bool) : boolE (l ++ l') = boolE l ++ boolE l' := by simp [boolE]

theorem l1OwnS_spec (ls : List Tx) (hl : ls.length ≤ 1000000) : Spec Tryd.prog 233 [.c (.sl 1000)] [(1000, .sl 9 1 (strE ls))] (isRes [.c (.sl 1001)] [(1000, .sl 9 1 (strE ls)), (1001, .sl 9 1 (strE ls))]) := by
  have hml := strE_len ls
  refine Spec.of_wpx tt_ok Tryd.func233 (by kernel_rfl) rfl ?_
  (repeat' ((conv => whnf); first | refine CondVC.t ?_ | refine CondVC.f ?_ | refine CondVC.dec (fun h => ?_) (fun h => ?_) | refine CondVC.ndec (fun h => ?_) (fun h => ?_) | refine CondVC.mk (fun h => ?_) (fun h => ?_) | refine ArVC.i64 (by first | omega | (simp only; omega)) ?_ | refine SideVC.mk (by first | omega | decide | (simp only; omega) | (simp [slS]; done) | (simp [slS]; omega) | (simp only [byteE_len, mvE_len, strE_len, intE_len, esC_len, List.length_cons, List.length_nil, List.length_append, List.length_replicate, List.length_set, Int.toNat_natCast, and_true] at *; omega)) ?_ | refine LoopN.go ?_ | exact trivial | refine AltVC.mk ?_ ?_ | refine HeldVC.mk rfl ?_ | refine OpVC.more tt_ok ?_ | refine RestVC.ext tt_ok ?_)); all_goals (conv => whnf)
  all_goals first
    | exact RetVC.ren [(1001, 5)] _ _ rfl rfl rfl ⟨rfl, rfl⟩
    | trace_state

theorem gaWith_spec (ls : List Tx) (k : Nat) (w : Tx) (hk : k < ls.length) (hl : ls.length ≤ 1000000) : Spec Tryd.prog 220 [.c (.sl 1000), i64 k, .c (.str w)] [(1000, .sl 9 1 (strE ls))]
    (isRes [.c (.sl 1001)] [(1000, .sl 9 1 (strE ls)), (1001, .sl 9 1 (strE (ls.set k w)))]) := by
  have hml := strE_len ls
  have h1 := l1OwnS_spec ls hl
  have g1 : (strE ls)[(k : Int).toNat]? = some [.str ls[k]] := by rw [Int.toNat_natCast]; exact strE_get hk
  have hfin : strE (ls.set k w) = (strE ls).set (k : Int).toNat [.str w] := by simp [strE]
  rw [hfin]
  refine Spec.of_wpx tt_ok Tryd.func220 (by kernel_rfl) rfl ?_
  (repeat' ((conv => whnf); first | refine CondVC.t ?_ | refine CondVC.f ?_ | refine CondVC.dec (fun h => ?_) (fun h => ?_) | refine CondVC.ndec (fun h => ?_) (fun h => ?_) | refine CondVC.mk (fun h => ?_) (fun h => ?_) | refine ArVC.i64 (by first | omega | (simp only; omega)) ?_ | refine SideVC.mk (by first | omega | decide | (simp only; omega) | (simp [slS]; done) | (simp [slS]; omega) | (simp only [byteE_len, mvE_len, strE_len, intE_len, esC_len, List.length_cons, List.length_nil, List.length_append, List.length_replicate, List.length_set, Int.toNat_natCast, and_true] at *; omega)) ?_ | refine LoopN.go ?_ | exact trivial | refine AltVC.mk ?_ ?_ | refine HeldVC.mk rfl ?_ | refine CallVC.res [1000] rfl h1 rfl ?_ | refine LoadVC.mk _ g1 ?_ | refine SideVC.mk (by rw [hml]; omega) ?_ | refine OpVC.more tt_ok ?_ | refine RestVC.ext tt_ok ?_)); all_goals (conv => whnf)
  all_goals first
    | exact RetVC.res rfl rfl
    | trace_state
end Go.Proofs.YtmdipjoogcdngaaDoor.X
