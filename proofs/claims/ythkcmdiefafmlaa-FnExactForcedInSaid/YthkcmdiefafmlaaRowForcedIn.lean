/- FnExactForcedIn: the program's function returns what the reference's returns, for all arguments. No condition. -/
import Derived.Test.YthkcmdiefafmlaaRows
import Derived.Test.YthkcmdiefafmlaaLawForced
import Derived.Test.YthkcmdiefafmlaaRowM
import Derived.WalkKit
import Derived.ProofKit
import Derived.OpenShut
import Derived.ShutString
import Derived.ChangeOld
import Derived.Below
import Derived.SizedLaws
import Derived.Lib.SmallJoins
namespace Go.Proofs.Ythkcmdiefafmlaa.fnExactForcedIn
open Go.Deep Go.ChangeShapes Go.WideShapes Go.ChangeAt Go.RowKit Go.Joins
open Go.ChangeMaps (open_string shut_string)
set_option linter.unusedVariables false
set_option linter.unusedSimpArgs false
theorem laid : laidOutB Try.prog = true := by kernel_rfl
theorem rdM : Try.prog.readableRec 33 = true := by kernel_rfl
theorem ecellsM : Try.prog.cellsOf 71 = 2 := by kernel_rfl
theorem icellsM : Try.prog.cellsOf 3 = 1 := by kernel_rfl
theorem own : ownKnob Try.prog.godebug = none := by kernel_rfl
set_option maxHeartbeats 1600000 in
set_option maxRecDepth 100000 in
theorem lifted (os : Os) (started : os.Started) (H : Type) (enc : TypeId × Value → H) :
    ReturnsInHanded {} Try.checked os 7 .any (Rows.fnExactForcedInSpec.pre6 enc Try.prog Try.f7 Rows.fnExactForcedInRow.domain false) (Rows.fnExactForcedInSpec.post enc Try.prog Try.f7 false true false false) := by
  refine returnsInHanded_of_change_sized (C := Try.checked) own started (by kernel_rfl) Try.func7
    (ChangeSpec.witness6 (enc := enc) (C := Try.checked) false ⟨#[], #[.int .i64 0, .int .i64 0, .int .i64 0, .slice none 0 0], []⟩ 8 (by kernel_rfl) (by kernel_rfl) (by kernel_rfl) (by kernel_rfl)) ?_
  intro W base args ds gs before hval0 hW hcnd hsz0 _
  have hval : ∀ (j : Nat) t v, Try.f7.params[j]? = some t → args[j]? = some v → Value.okWide Try.prog W .any base t v := hval0
  have hW' := hW
  obtain ⟨p, q, hA0, hV, rfl, hfz, hnd⟩ := hW
  have hA : DataW.TrodAll enc Try.prog W 0 (fun _ => true) true Try.f7.params.toList args.toList ds p := hA0
  rw [Try.params7] at hA hval
  obtain ⟨v0, vs0, d0', ds0, p0, q0, hargs, rfl, rfl, h0, r0⟩ := trodAll_cons hA
  obtain ⟨v1, vs1, d1', ds1, p1, q1, rfl, rfl, rfl, h1, r1⟩ := trodAll_cons r0
  obtain ⟨v2, vs2, d2', ds2, p2, q2, rfl, rfl, rfl, h2, r2⟩ := trodAll_cons r1
  obtain ⟨v3, vs3, d3', ds3, p3, q3, rfl, rfl, rfl, h3, r3⟩ := trodAll_cons r2
  obtain ⟨rfl, rfl, rfl⟩ := trodAll_nil r3
  obtain rfl : args = #[v0, v1, v2, v3] := by cases args; simp_all
  obtain ⟨rfl, rfl⟩ := trodVars_none hV
  obtain ⟨n0, rfl, rfl, rfl, y0⟩ := open_int Try.underlying3 (hval 0 3 v0 rfl rfl) h0
  obtain ⟨n1, rfl, rfl, rfl, y1⟩ := open_int Try.underlying3 (hval 1 3 v1 rfl rfl) h1
  obtain ⟨n2, rfl, rfl, rfl, y2⟩ := open_int Try.underlying3 (hval 2 3 v2 rfl rfl) h2
  have hM' := h3
  obtain ⟨sb, sn, sc, rfl⟩ := Go.WideShapes.okWide_slice Try.underlying33 (hval 3 33 v3 rfl rfl)
  obtain ⟨fuelM, hMf⟩ := h3
  obtain ⟨sbM, snM, scM, lM, obM, FM, eM1, hlM, hRM, hFM⟩ := X.open_ints2 Try.underlying33 Try.underlying71 ecellsM rfl rfl icellsM icellsM Try.underlying3 Try.underlying3 hMf 71
  have eM2 : [Value.slice sb sn sc] = [Value.slice sbM snM scM] := eM1
  simp only [List.cons.injEq, Value.slice.injEq, and_true] at eM2
  obtain ⟨rfl, rfl, rfl⟩ := eM2
  have hw := X.Spec.walkRo (X.lawForcedIn_spec n0 n1 n2 obM lM (by unfold maxLen at hlM; exact hlM)) hRM hFM
  have hd : (List.map (X.V.den (X.nmS 1000 sb sn sc)) [X.i64 n0, X.i64 n1, X.i64 n2, .c (.sl 1000)]).toArray = #[.int .i64 n0, .int .i64 n1, .int .i64 n2, .slice sb sn sc] := by simp [X.V.den, X.C.den, X.nmS, X.Nm.upd, X.i64, X.vb]
  rw [hd] at hw
  refine hw.mono fun e W' ⟨he, bel⟩ => ?_
  subst he
  exact ⟨_, rfl, _, _, _, [], _, [], hW', trodAll_mk1 (shut_bool Try.underlying4 _), (trodAll_cons_mk (shut_int Try.underlying3 y0) (trodAll_cons_mk (shut_int Try.underlying3 y1) (trodAll_cons_mk (shut_int Try.underlying3 y2) (trodAll_cons_mk (bel.trod laid rdM (of_decide_eq_true (by kernel_rfl)) hM' (DataW.TrodAll.lt (trodAll_mk1 hM'))) trodAll_mk0)))), rfl, bel.frame _, fun h => by cases h⟩
theorem over : Rows.fnExactForcedInRow.holds Try.pinned (OpenSpec.ofChange Rows.fnExactForcedInSpec) :=
  OpenClaim.holds_of_wide 7 Try.f7 rfl rfl rfl rfl rfl rfl rfl ⟨rfl, rfl, rfl, rfl, rfl⟩ rfl rfl rfl rfl rfl (by kernel_rfl) Try.func7 (by kernel_rfl)
    (of_decide_eq_true (by kernel_rfl)) (by unfold Func.isWrapper; first | (rw [if_pos (by decide +kernel)]; kernel_rfl) | (rw [if_neg (by decide +kernel)]; exact ⟨rfl, rfl⟩))
    (fun os started H enc _ => lifted os started H enc)
theorem proved : Rows.FnExactForcedInSaid := over
end Go.Proofs.Ythkcmdiefafmlaa.fnExactForcedIn
namespace Go.Proofs.Ythkcmdiefafmlaa
theorem fnExactForcedIn_holds : Rows.FnExactForcedInSaid := fnExactForcedIn.proved
end Go.Proofs.Ythkcmdiefafmlaa

