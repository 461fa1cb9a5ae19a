/- FnExactDropClue: the program's function returns what the reference's returns, for all arguments. No condition. -/
import Derived.Test.YtmfhfndokkhhdaaRows
import Derived.Test.YtmfhfndokkhhdaaDrop
import Derived.Test.YtmfhfndokkhhdaaRowR
import Derived.WalkKit
import Derived.ProofKit
import Derived.OpenShut
import Derived.ShutString
import Derived.ChangeOld
import Derived.Below
import Derived.SizedLaws
import Derived.Lib.SmallJoins
namespace Go.Proofs.Ytmfhfndokkhhdaa.fnExactDropClue
open Go.ChangeShapes Go.WideShapes Go.ChangeAt Go.RowKit Go.Joins
open Go.ChangeMaps (open_string shut_string)
set_option linter.unusedVariables false
set_option linter.unusedSimpArgs false
theorem own : ownKnob Try.prog.godebug = none := by kernel_rfl
theorem laid : laidOutB Try.prog = true := by kernel_rfl
theorem cells0 : Try.prog.cellsOf 24 = 2 := by kernel_rfl
theorem rd0 : Try.prog.readableRec 24 = true := by kernel_rfl
theorem ecells0 : Try.prog.cellsOf 62 = 3 := by kernel_rfl
theorem icells0 : Try.prog.cellsOf 3 = 1 := by kernel_rfl
set_option maxHeartbeats 1600000 in
set_option maxRecDepth 100000 in
theorem lifted (os : Os) (started : os.Started) (H : Type) (enc : TypeId × Value → H) :
    ReturnsInHanded {} Try.checked os 3 .any (Rows.fnExactDropClueSpec.pre6 enc Try.prog Try.f3 Rows.fnExactDropClueRow.domain false) (Rows.fnExactDropClueSpec.post enc Try.prog Try.f3 false true false false) := by
  refine returnsInHanded_of_change_sized (C := Try.checked) own started (by kernel_rfl) Try.func3
    (ChangeSpec.witness6 (enc := enc) (C := Try.checked) false ⟨#[], #[.agg #[.int .i64 0, .slice none 0 0], .int .i64 0], []⟩ 8 (by kernel_rfl) (by kernel_rfl) (by kernel_rfl) (by kernel_rfl)) ?_
  intro W base args ds gs before hval0 hW hcnd hsz0 _
  have hval : ∀ (j : Nat) t v, Try.f3.params[j]? = some t → args[j]? = some v → Value.okWide Try.prog W .any base t v := hval0
  have hW' := hW
  obtain ⟨p, q, hA0, hV, rfl, hfz, hnd⟩ := hW
  have hA : DataW.TrodAll enc Try.prog W 0 (fun _ => true) true Try.f3.params.toList args.toList ds p := hA0
  rw [Try.params3] at hA hval
  obtain ⟨v0, vs0, d0', ds0, p0, q0, hargs, rfl, rfl, h0, r0⟩ := trodAll_cons hA
  obtain ⟨v1, vs1, d1', ds1, p1, q1, rfl, rfl, rfl, h1, r1⟩ := trodAll_cons r0
  obtain ⟨rfl, rfl, rfl⟩ := trodAll_nil r1
  obtain rfl : args = #[v0, v1] := by cases args; simp_all
  obtain ⟨rfl, rfl⟩ := trodVars_none hV
  have h0' := h0
  obtain ⟨c00, c01, y00, y01, m0, rfl, rfl, rfl, hy00, hy01⟩ := open_agg2 Try.underlying24 (by kernel_rfl) cells0 (hval 0 24 v0 rfl rfl) h0
  obtain ⟨a0, e00, hz0, _⟩ := DataW.trod_int Try.underlying3 hy00
  obtain ⟨sb0, sn0, sc0, l0, ob0, F0, e01, hl0, hR0, hF0⟩ := X.open_ints3 Try.underlying22 Try.underlying62 ecells0 rfl rfl rfl icells0 icells0 icells0 Try.underlying3 Try.underlying3 Try.underlying3 hy01 62
  simp at e00 e01
  subst e00 e01
  obtain ⟨n1, rfl, rfl, rfl, y1⟩ := open_int Try.underlying3 (hval 1 3 v1 rfl rfl) h1
  have hw := X.Spec.walkRo (X.lawDropClue_spec ob0 a0 l0 n1 (by simp [maxLen] at hl0; omega)) hR0 hF0
  have hd : (List.map (X.V.den (X.nmS 1000 sb0 sn0 sc0)) [.agg [.int .i64 a0, .sl 1000], X.i64 n1]).toArray = #[.agg #[.int .i64 a0, .slice sb0 sn0 sc0], .int .i64 n1] := by simp [X.V.den, X.C.den, X.nmS, X.Nm.upd, X.i64, X.vb, X.clueV]
  rw [hd] at hw
  refine hw.mono fun e W' ⟨he, bel⟩ => ?_
  subst he
  exact ⟨_, rfl, _, _, _, [], _, [], hW', trodAll_mk1 (shut_bool Try.underlying4 _), (trodAll_cons_mk (bel.trod laid rd0 (of_decide_eq_true (by kernel_rfl)) h0' (DataW.TrodAll.lt (trodAll_mk1 h0'))) (trodAll_cons_mk (shut_int Try.underlying3 y1) trodAll_mk0)), rfl, bel.frame _, fun h => by cases h⟩
theorem over : Rows.fnExactDropClueRow.holds Try.pinned (OpenSpec.ofChange Rows.fnExactDropClueSpec) :=
  OpenClaim.holds_of_wide 3 Try.f3 rfl rfl rfl rfl rfl rfl rfl ⟨rfl, rfl, rfl, rfl, rfl⟩ rfl rfl rfl rfl rfl (by kernel_rfl) Try.func3 (by kernel_rfl)
    (of_decide_eq_true (by kernel_rfl)) (by unfold Func.isWrapper; first | (rw [if_pos (by decide +kernel)]; kernel_rfl) | (rw [if_neg (by decide +kernel)]; exact ⟨rfl, rfl⟩))
    (fun os started H enc _ => lifted os started H enc)
theorem proved : Rows.FnExactDropClueSaid := over
end Go.Proofs.Ytmfhfndokkhhdaa.fnExactDropClue
namespace Go.Proofs.Ytmfhfndokkhhdaa
theorem fnExactDropClue_holds : Rows.FnExactDropClueSaid := fnExactDropClue.proved
end Go.Proofs.Ytmfhfndokkhhdaa
