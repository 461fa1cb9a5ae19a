/- Go's library as the walk meets it: the laid contracts in the walk's own form. No condition. -/
import Derived.Test.YtglikiknonmogaaBase
import Derived.Test.YtglikiknonmogaaLays
namespace Go.Proofs.Ytglikiknonmogaa.X
open Go.Proofs Go.Shelf Go.RowKit
set_option maxRecDepth 100000
set_option linter.unusedVariables false
set_option linter.unusedSimpArgs false

theorem Spec.ofBelow {P : Program} {f : FuncId} {args res : List V} (hok : FnOk P f) (ha : args.flatMap V.names = []) (hr : res.flatMap V.names = [])
    (h : ∀ w, Calls P f (args.map (V.den nm0)).toArray w fun e w' => e = .returned (pk nm0 res) ∧ Below w.heap.size w w') : Spec P f args [] (isRes res []) := by
  refine ⟨hok, fun ρ w F hM => ?_⟩
  have e1 : args.map (V.den ρ) = args.map (V.den nm0) := V.den_list_congr args fun r hr => by rw [ha] at hr; cases hr
  rw [e1]
  refine (h w).mono ?_
  rintro e w' ⟨rfl, hb⟩
  have e2 : res.map (V.den ρ) = res.map (V.den nm0) := V.den_list_congr res fun r h => by rw [hr] at h; cases h
  have e3 : pk nm0 res = pk ρ res := by
    match res, e2 with
    | [], _ => rfl
    | [v], e2 => exact (List.cons.inj e2).1.symm
    | v :: u :: l, e2 => simp only [pk, e2]
  exact ⟨ρ, res, [], fun _ => False, ⟨rfl, rfl⟩, by rw [e3], fun b h => h, fun b h => h.elim, ⟨hb.os, hb.tape, hb.output, hb.size, fun b hb' _ => hb.block b hb'⟩, fun r hr => by cases hr⟩





theorem repeat_spec (s : List UInt8) (c : Nat) (h : s.length * c ≤ 140737488355328) (hc : c ≤ 9223372036854775807) : Spec Try.prog 61 [.c (.str s), .c (.int .i64 c)] [] (isRes [.c (.str (Lib.repeatL s c))] []) := by
  refine Spec.ofBelow ⟨_, Try.func61, by kernel_rfl, rfl⟩ rfl rfl fun w => ?_
  refine (Try.strings_Repeat ⟨s.toArray⟩ c w hc h).mono ?_
  rintro e w' ⟨rfl, hb⟩
  exact ⟨by simp [V.den, C.den, pk], hb⟩


end Go.Proofs.Ytglikiknonmogaa.X
