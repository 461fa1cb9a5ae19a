/- FnExactWinsSum: the program's function returns what the reference's returns, for all arguments; the library's tables as the program's text lays them. No condition. -/
import Derived.Test.YtjpabjmcooiflaaDoorCards
import Derived.Test.YtjpabjmcooiflaaDoorTie
import Derived.Test.YtjpabjmcooiflaaDoorSum
import Derived.Test.YtjpabjmcooiflaaDoorRowS
import Derived.WalkKit
import Derived.ProofKit
import Derived.OpenShut
import Derived.ShutString
import Derived.ChangeOld
import Derived.Below
import Derived.SizedLaws
import Derived.LaidMore
import Derived.Lay
import Derived.SevenTiedAt
import Derived.Stop.Joined
import Derived.Lib.SmallJoins
namespace Go.Proofs.YtjpabjmcooiflaaDoor.fnExactWinsSum
open Go.ChangeShapes Go.WideShapes Go.ChangeAt Go.RowKit Go.Joins
open Go.ChangeMaps (open_string shut_string)
set_option linter.unusedVariables false
set_option linter.unusedSimpArgs false
theorem laid : laidOutB Tryd.prog = true := by kernel_rfl
theorem rd0 : Tryd.prog.readableRec 33 = true := by kernel_rfl
theorem ecells0 : Tryd.prog.cellsOf 9 = 1 := by kernel_rfl
theorem own : ownKnob Tryd.prog.godebug = none := by kernel_rfl
set_option maxHeartbeats 1600000 in
set_option maxRecDepth 100000 in
theorem lifted (os : Os) (started : os.Started) (H : Type) (enc : TypeId × Value → H) :
    ReturnsInHanded {} Tryd.checked os 8 .any (fun w args => (Rows.fnExactWinsSumSpec.pre enc Tryd.prog Tryd.f8 Rows.fnExactWinsSumRow.domain false w args ∧ laidMetH Tryd.prog Rows.fnExactWinsSumRow.laid w) ∧ sizedMet enc Tryd.prog Tryd.f8 (OpenSpec.ofChange Rows.fnExactWinsSumSpec) false w args)
      (Rows.fnExactWinsSumSpec.post enc Tryd.prog Tryd.f8 false true false false) := by
  refine returnsInHanded_of_change_and (C := Tryd.checked) (X := fun w _ => laidMetH Tryd.prog Rows.fnExactWinsSumRow.laid w) (fun _ _ _ hh h => h.of_heap hh) own started (by kernel_rfl) Tryd.func8
    (ChangeSpec.witness_shaped (enc := enc) (C := Tryd.checked) (os := os) (X := fun w _ => laidMetH Tryd.prog Rows.fnExactWinsSumRow.laid w) false (World.laidAll Tryd.prog os Rows.fnExactWinsSumRow.laid) #[.slice none 0 0, .bool false] 8 (World.laidAll_os _ _ _)
      (World.shaped_of_ZipB (by kernel_rfl) (by kernel_rfl)) (by kernel_rfl) (by kernel_rfl) (by kernel_rfl)
      (by rw [MakeChecks.laidMetH_plain _ _ _ (by kernel_rfl)]; exact laidMet_laidAll _ (by kernel_rfl) (by kernel_rfl))) ?_
  intro W base args ds gs before hval0 hW hcnd _ hL _
  have hval : ∀ (j : Nat) t v, Tryd.f8.params[j]? = some t → args[j]? = some v → Value.okWide Tryd.prog W .any base t v := hval0
  have hW' := hW
  obtain ⟨p, q, hA0, hV, rfl, hfz, hnd⟩ := hW
  have hA : DataW.TrodAll enc Tryd.prog W 0 (fun _ => true) true Tryd.f8.params.toList args.toList ds p := hA0
  rw [Tryd.params8] at hA hval
  obtain ⟨v0, vs0, d0', ds0, p0, q0, hargs, rfl, rfl, h0, r0⟩ := trodAll_cons hA
  obtain ⟨v1, vs1, d1', ds1, p1, q1, rfl, rfl, rfl, h1, r1⟩ := trodAll_cons r0
  obtain ⟨rfl, rfl, rfl⟩ := trodAll_nil r1
  obtain rfl : args = #[v0, v1] := by cases args; simp_all
  obtain ⟨rfl, rfl⟩ := trodVars_none hV
  have h0' := h0
  obtain ⟨sb, sn, sc, rfl⟩ := Go.WideShapes.okWide_slice Tryd.underlying33 (hval 0 33 v0 rfl rfl)
  obtain ⟨fuel0, h0f⟩ := h0
  obtain ⟨sb0, sn0, sc0, l0, ob0, F0, e01, hl0, hs0, hR0, hF0⟩ := X.open_strs Tryd.underlying33 Tryd.underlying9 ecells0 h0f 9
  obtain ⟨n1, rfl, rfl, rfl⟩ := open_bool Tryd.underlying4 (hval 1 4 v1 rfl rfl) h1
  have e02 : [Value.slice sb sn sc] = [Value.slice sb0 sn0 sc0] := e01
  simp only [List.cons.injEq, Value.slice.injEq, and_true] at e02
  obtain ⟨rfl, rfl, rfl⟩ := e02
  have hw := X.Spec.walkRo (X.lawWinsSum_spec ob0 l0 n1 (by unfold maxLen at hl0; exact hl0) (fun s hs => by have := hs0 s hs; unfold maxLen at this; exact this)) hR0 hF0
  have hd : (List.map (X.V.den (X.nmS 1000 sb sn sc)) [.c (.sl 1000), X.vb n1]).toArray = #[.slice sb sn sc, .bool n1] := by simp [X.V.den, X.C.den, X.nmS, X.Nm.upd, X.i64, X.vb]
  rw [hd] at hw
  refine hw.mono fun e W' ⟨he, bel⟩ => ?_
  subst he
  exact ⟨_, rfl, _, _, _, [], _, [], hW', trodAll_mk1 (shut_bool Tryd.underlying4 _), (trodAll_cons_mk (bel.trod laid rd0 (of_decide_eq_true (by kernel_rfl)) h0' (DataW.TrodAll.lt (trodAll_mk1 h0'))) (trodAll_cons_mk (shut_bool Tryd.underlying4 _) trodAll_mk0)), rfl, bel.frame _, fun h => by cases h⟩
theorem over : Rows.fnExactWinsSumRow.holds Tryd.pinned (OpenSpec.ofChange Rows.fnExactWinsSumSpec) :=
  OpenClaim.holds_of_wide 8 Tryd.f8 rfl rfl rfl rfl rfl rfl rfl ⟨rfl, rfl, rfl, rfl, rfl⟩ rfl rfl rfl rfl rfl (by kernel_rfl) Tryd.func8 (by kernel_rfl)
    (of_decide_eq_true (by kernel_rfl)) (by unfold Func.isWrapper; first | (rw [if_pos (by decide +kernel)]; kernel_rfl) | (rw [if_neg (by decide +kernel)]; exact ⟨rfl, rfl⟩))
    (fun os started H enc _ => lifted os started H enc)
theorem card : Rows.FnExactWinsSumCardSaid :=
  Claim7.holds_tied_plain_at .later [] _ _ _ _ over (fun _ h => by cases h) (by kernel_rfl) (fun _ h => by cases h) fnExactWinsSum_row_tie rfl ⟨rfl, rfl⟩ (by kernel_rfl) rfl
    (fun f fn hf hfn => by
      obtain rfl : f = 8 := Option.some.inj ((show Tryd.prog.funcNamed Rows.fnExactWinsSumRow.func = some 8 by kernel_rfl).symm.trans hf) |>.symm
      obtain rfl : fn = Tryd.f8 := (Option.some.inj (Tryd.func8.symm.trans hfn)).symm
      exact ⟨by kernel_rfl, fun j t ht => by
        rw [Tryd.params8] at ht
        have hm : t ∈ [33, 4] := by simpa using Array.mem_of_getElem? ht
        have hall : ([33, 4].all fun u => !Tryd.prog.wantsStandIn u) = true := by kernel_rfl
        exact (show Tryd.prog.wantsStandIn t = false by simpa using List.all_eq_true.1 hall t hm)⟩)
    (by kernel_rfl)
end Go.Proofs.YtjpabjmcooiflaaDoor.fnExactWinsSum
namespace Go.Proofs.YtjpabjmcooiflaaDoor
theorem fnExactWinsSum_holds : Rows.FnExactWinsSumCardSaid := fnExactWinsSum.card
end Go.Proofs.YtjpabjmcooiflaaDoor

