/- FnRulesMoveOfAll: the program's function returns what the reference's returns, for all arguments; the library's tables as the program's text lays them. No condition. -/
import Derived.Test.YtaidpalamhmghaaDoorCards
import Derived.Test.YtaidpalamhmghaaDoorTie
import Derived.Test.YtaidpalamhmghaaDoorRuR
import Derived.Test.YtaidpalamhmghaaDoorRowM
import Derived.WalkKit
import Derived.ProofKit
import Derived.OpenShut
import Derived.ShutString
import Derived.ChangeOld
import Derived.Below
import Derived.SizedLaws
import Derived.LaidMore
import Derived.Lay
import Derived.SevenTiedAt
import Derived.Stop.Joined
import Derived.Lib.SmallJoins
namespace Go.Proofs.YtaidpalamhmghaaDoor.fnRulesMoveOfAll
open Go.ChangeShapes Go.WideShapes Go.ChangeAt Go.RowKit Go.Joins
open Go.ChangeMaps (open_string shut_string)
set_option linter.unusedVariables false
set_option linter.unusedSimpArgs false
theorem own : ownKnob Tryd.prog.godebug = none := by kernel_rfl
theorem laid : laidOutB Tryd.prog = true := by kernel_rfl
theorem cells1 : Tryd.prog.cellsOf 31 = 3 := by kernel_rfl
theorem rd1 : Tryd.prog.readableRec 31 = true := by kernel_rfl
theorem cells3 : Tryd.prog.cellsOf 33 = 2 := by kernel_rfl
theorem rd3 : Tryd.prog.readableRec 33 = true := by kernel_rfl
theorem cells4 : Tryd.prog.cellsOf 31 = 3 := by kernel_rfl
theorem rd4 : Tryd.prog.readableRec 31 = true := by kernel_rfl
theorem rd6 : Tryd.prog.readableRec 34 = true := by kernel_rfl
theorem ecells6 : Tryd.prog.cellsOf 33 = 2 := by kernel_rfl
theorem icells6 : Tryd.prog.cellsOf 3 = 1 := by kernel_rfl
theorem cells7 : Tryd.prog.cellsOf 31 = 3 := by kernel_rfl
theorem rd7 : Tryd.prog.readableRec 31 = true := by kernel_rfl
theorem cells8 : Tryd.prog.cellsOf 31 = 3 := by kernel_rfl
theorem rd8 : Tryd.prog.readableRec 31 = true := by kernel_rfl
set_option maxHeartbeats 1600000 in
set_option maxRecDepth 100000 in
theorem lifted (os : Os) (started : os.Started) (H : Type) (enc : TypeId × Value → H) :
    ReturnsInHanded {} Tryd.checked os 4 .any (fun w args => (Rows.fnRulesMoveOfAllSpec.pre enc Tryd.prog Tryd.f4 Rows.fnRulesMoveOfAllRow.domain false w args ∧ laidMetH Tryd.prog Rows.fnRulesMoveOfAllRow.laid w) ∧ sizedMet enc Tryd.prog Tryd.f4 (OpenSpec.ofChange Rows.fnRulesMoveOfAllSpec) false w args)
      (Rows.fnRulesMoveOfAllSpec.post enc Tryd.prog Tryd.f4 false true false false) := by
  refine returnsInHanded_of_change_and (C := Tryd.checked) (X := fun w _ => laidMetH Tryd.prog Rows.fnRulesMoveOfAllRow.laid w) (fun _ _ _ hh h => h.of_heap hh) own started (by kernel_rfl) Tryd.func4
    (ChangeSpec.witness_shaped (enc := enc) (C := Tryd.checked) (os := os) (X := fun w _ => laidMetH Tryd.prog Rows.fnRulesMoveOfAllRow.laid w) false (World.laidAll Tryd.prog os Rows.fnRulesMoveOfAllRow.laid) #[.string ByteArray.empty, .agg #[.bool false, .bool false, .bool false], .string ByteArray.empty, .agg #[.int .i64 0, .int .i64 0], .agg #[.bool false, .bool false, .bool false], .string ByteArray.empty, .slice none 0 0, .agg #[.bool false, .bool false, .bool false], .agg #[.bool false, .bool false, .bool false], .string ByteArray.empty] 8 (World.laidAll_os _ _ _)
      (World.shaped_of_ZipB (by kernel_rfl) (by kernel_rfl)) (by kernel_rfl) (by kernel_rfl) (by kernel_rfl)
      (by rw [MakeChecks.laidMetH_plain _ _ _ (by kernel_rfl)]; exact laidMet_laidAll _ (by kernel_rfl) (by kernel_rfl))) ?_
  intro W base args ds gs before hval0 hW hcnd _ hL _
  have hval : ∀ (j : Nat) t v, Tryd.f4.params[j]? = some t → args[j]? = some v → Value.okWide Tryd.prog W .any base t v := hval0
  have hW' := hW
  obtain ⟨p, q, hA0, hV, rfl, hfz, hnd⟩ := hW
  have hA : DataW.TrodAll enc Tryd.prog W 0 (fun _ => true) true Tryd.f4.params.toList args.toList ds p := hA0
  rw [Tryd.params4] at hA hval
  obtain ⟨v0, vs0, d0', ds0, p0, q0, hargs, rfl, rfl, h0, r0⟩ := trodAll_cons hA
  obtain ⟨v1, vs1, d1', ds1, p1, q1, rfl, rfl, rfl, h1, r1⟩ := trodAll_cons r0
  obtain ⟨v2, vs2, d2', ds2, p2, q2, rfl, rfl, rfl, h2, r2⟩ := trodAll_cons r1
  obtain ⟨v3, vs3, d3', ds3, p3, q3, rfl, rfl, rfl, h3, r3⟩ := trodAll_cons r2
  obtain ⟨v4, vs4, d4', ds4, p4, q4, rfl, rfl, rfl, h4, r4⟩ := trodAll_cons r3
  obtain ⟨v5, vs5, d5', ds5, p5, q5, rfl, rfl, rfl, h5, r5⟩ := trodAll_cons r4
  obtain ⟨v6, vs6, d6', ds6, p6, q6, rfl, rfl, rfl, h6, r6⟩ := trodAll_cons r5
  obtain ⟨v7, vs7, d7', ds7, p7, q7, rfl, rfl, rfl, h7, r7⟩ := trodAll_cons r6
  obtain ⟨v8, vs8, d8', ds8, p8, q8, rfl, rfl, rfl, h8, r8⟩ := trodAll_cons r7
  obtain ⟨v9, vs9, d9', ds9, p9, q9, rfl, rfl, rfl, h9, r9⟩ := trodAll_cons r8
  obtain ⟨rfl, rfl, rfl⟩ := trodAll_nil r9
  obtain rfl : args = #[v0, v1, v2, v3, v4, v5, v6, v7, v8, v9] := by cases args; simp_all
  obtain ⟨rfl, rfl⟩ := trodVars_none hV
  obtain ⟨s0, rfl, rfl, rfl, y0⟩ := open_string Tryd.underlying9 (hval 0 9 v0 rfl rfl) h0
  have h1' := h1
  obtain ⟨c10, c11, c12, y10, y11, y12, m1, rfl, rfl, rfl, hy10, hy11, hy12⟩ := open_agg3 Tryd.underlying31 (by kernel_rfl) cells1 (hval 1 31 v1 rfl rfl) h1
  obtain ⟨a1, e10, rfl⟩ := DataW.trod_bool Tryd.underlying4 hy10
  obtain ⟨b1, e11, rfl⟩ := DataW.trod_bool Tryd.underlying4 hy11
  obtain ⟨d1, e12, rfl⟩ := DataW.trod_bool Tryd.underlying4 hy12
  simp at e10 e11 e12
  subst e10 e11 e12
  obtain ⟨s2, rfl, rfl, rfl, y2⟩ := open_string Tryd.underlying9 (hval 2 9 v2 rfl rfl) h2
  have h3' := h3
  obtain ⟨c30, c31, y30, y31, m3, rfl, rfl, rfl, hy30, hy31⟩ := open_agg2 Tryd.underlying33 (by kernel_rfl) cells3 (hval 3 33 v3 rfl rfl) h3
  obtain ⟨a3, e30, rfl, _⟩ := DataW.trod_int Tryd.underlying3 hy30
  obtain ⟨b3, e31, rfl, _⟩ := DataW.trod_int Tryd.underlying3 hy31
  simp at e30 e31
  subst e30 e31
  have h4' := h4
  obtain ⟨c40, c41, c42, y40, y41, y42, m4, rfl, rfl, rfl, hy40, hy41, hy42⟩ := open_agg3 Tryd.underlying31 (by kernel_rfl) cells4 (hval 4 31 v4 rfl rfl) h4
  obtain ⟨a4, e40, rfl⟩ := DataW.trod_bool Tryd.underlying4 hy40
  obtain ⟨b4, e41, rfl⟩ := DataW.trod_bool Tryd.underlying4 hy41
  obtain ⟨d4, e42, rfl⟩ := DataW.trod_bool Tryd.underlying4 hy42
  simp at e40 e41 e42
  subst e40 e41 e42
  obtain ⟨s5, rfl, rfl, rfl, y5⟩ := open_string Tryd.underlying9 (hval 5 9 v5 rfl rfl) h5
  have h6' := h6
  obtain ⟨sb6, sn6, sc6, rfl⟩ := Go.WideShapes.okWide_slice Tryd.underlying34 (hval 6 34 v6 rfl rfl)
  obtain ⟨fuel6, hf6⟩ := h6
  obtain ⟨sbM, snM, scM, l6, ob6, F6, eM1, hl6, hR6, hF6⟩ := X.open_ints2 Tryd.underlying34 Tryd.underlying33 ecells6 rfl rfl icells6 icells6 Tryd.underlying3 Tryd.underlying3 hf6 33
  have eM2 : [Value.slice sb6 sn6 sc6] = [Value.slice sbM snM scM] := eM1
  simp only [List.cons.injEq, Value.slice.injEq, and_true] at eM2
  obtain ⟨rfl, rfl, rfl⟩ := eM2
  have h7' := h7
  obtain ⟨c70, c71, c72, y70, y71, y72, m7, rfl, rfl, rfl, hy70, hy71, hy72⟩ := open_agg3 Tryd.underlying31 (by kernel_rfl) cells7 (hval 7 31 v7 rfl rfl) h7
  obtain ⟨a7, e70, rfl⟩ := DataW.trod_bool Tryd.underlying4 hy70
  obtain ⟨b7, e71, rfl⟩ := DataW.trod_bool Tryd.underlying4 hy71
  obtain ⟨d7, e72, rfl⟩ := DataW.trod_bool Tryd.underlying4 hy72
  simp at e70 e71 e72
  subst e70 e71 e72
  have h8' := h8
  obtain ⟨c80, c81, c82, y80, y81, y82, m8, rfl, rfl, rfl, hy80, hy81, hy82⟩ := open_agg3 Tryd.underlying31 (by kernel_rfl) cells8 (hval 8 31 v8 rfl rfl) h8
  obtain ⟨a8, e80, rfl⟩ := DataW.trod_bool Tryd.underlying4 hy80
  obtain ⟨b8, e81, rfl⟩ := DataW.trod_bool Tryd.underlying4 hy81
  obtain ⟨d8, e82, rfl⟩ := DataW.trod_bool Tryd.underlying4 hy82
  simp at e80 e81 e82
  subst e80 e81 e82
  obtain ⟨s9, rfl, rfl, rfl, y9⟩ := open_string Tryd.underlying9 (hval 9 9 v9 rfl rfl) h9
  have hw := X.Spec.walkRo (X.lawRulesMoveOfAllRow_spec s0.data.toList (by unfold maxLen at y0; exact y0) a1 b1 d1 s2.data.toList (by unfold maxLen at y2; exact y2) a3 b3 a4 b4 d4 s5.data.toList (by unfold maxLen at y5; exact y5) ob6 l6 (by unfold maxLen at hl6; exact hl6) a7 b7 d7 a8 b8 d8 s9.data.toList (by unfold maxLen at y9; exact y9)) hR6 hF6
  have hd : (List.map (X.V.den (X.nmS 1000 sb6 sn6 sc6)) [.c (.str s0.data.toList), .agg [.bool a1, .bool b1, .bool d1], .c (.str s2.data.toList), .agg [.int .i64 a3, .int .i64 b3], .agg [.bool a4, .bool b4, .bool d4], .c (.str s5.data.toList), .c (.sl 1000), .agg [.bool a7, .bool b7, .bool d7], .agg [.bool a8, .bool b8, .bool d8], .c (.str s9.data.toList)]).toArray = #[.string s0, .agg #[.bool a1, .bool b1, .bool d1], .string s2, .agg #[.int .i64 a3, .int .i64 b3], .agg #[.bool a4, .bool b4, .bool d4], .string s5, .slice sb6 sn6 sc6, .agg #[.bool a7, .bool b7, .bool d7], .agg #[.bool a8, .bool b8, .bool d8], .string s9] := by simp [X.V.den, X.C.den, X.nmS, X.Nm.upd, X.i64, X.vb]
  rw [hd] at hw
  refine hw.mono fun e W' ⟨he, bel⟩ => ?_
  subst he
  exact ⟨_, rfl, _, _, _, [], _, [], hW', trodAll_mk1 (shut_bool Tryd.underlying4 _), (trodAll_cons_mk (shut_string Tryd.underlying9 y0) (trodAll_cons_mk (bel.trod laid rd1 (of_decide_eq_true (by kernel_rfl)) h1' (by simp)) (trodAll_cons_mk (shut_string Tryd.underlying9 y2) (trodAll_cons_mk (bel.trod laid rd3 (of_decide_eq_true (by kernel_rfl)) h3' (by simp)) (trodAll_cons_mk (bel.trod laid rd4 (of_decide_eq_true (by kernel_rfl)) h4' (by simp)) (trodAll_cons_mk (shut_string Tryd.underlying9 y5) (trodAll_cons_mk (bel.trod laid rd6 (of_decide_eq_true (by kernel_rfl)) h6' (DataW.TrodAll.lt (trodAll_mk1 h6'))) (trodAll_cons_mk (bel.trod laid rd7 (of_decide_eq_true (by kernel_rfl)) h7' (by simp)) (trodAll_cons_mk (bel.trod laid rd8 (of_decide_eq_true (by kernel_rfl)) h8' (by simp)) (trodAll_cons_mk (shut_string Tryd.underlying9 y9) trodAll_mk0)))))))))), rfl, bel.frame _, fun h => by cases h⟩
theorem over : Rows.fnRulesMoveOfAllRow.holds Tryd.pinned (OpenSpec.ofChange Rows.fnRulesMoveOfAllSpec) :=
  OpenClaim.holds_of_wide 4 Tryd.f4 rfl rfl rfl rfl rfl rfl rfl ⟨rfl, rfl, rfl, rfl, rfl⟩ rfl rfl rfl rfl rfl (by kernel_rfl) Tryd.func4 (by kernel_rfl)
    (of_decide_eq_true (by kernel_rfl)) (by unfold Func.isWrapper; first | (rw [if_pos (by decide +kernel)]; kernel_rfl) | (rw [if_neg (by decide +kernel)]; exact ⟨rfl, rfl⟩))
    (fun os started H enc _ => lifted os started H enc)
theorem card : Rows.FnRulesMoveOfAllCardSaid :=
  Claim7.holds_tied_plain_at .later [] _ _ _ _ over (fun _ h => by cases h) (by kernel_rfl) (fun _ h => by cases h) fnRulesMoveOfAll_row_tie rfl ⟨rfl, rfl⟩ (by kernel_rfl) rfl
    (fun f fn hf hfn => by
      obtain rfl : f = 4 := Option.some.inj ((show Tryd.prog.funcNamed Rows.fnRulesMoveOfAllRow.func = some 4 by kernel_rfl).symm.trans hf) |>.symm
      obtain rfl : fn = Tryd.f4 := (Option.some.inj (Tryd.func4.symm.trans hfn)).symm
      exact ⟨by kernel_rfl, fun j t ht => by
        rw [Tryd.params4] at ht
        have hm : t ∈ [9, 31, 9, 33, 31, 9, 34, 31, 31, 9] := by simpa using Array.mem_of_getElem? ht
        have hall : ([9, 31, 9, 33, 31, 9, 34, 31, 31, 9].all fun u => !Tryd.prog.wantsStandIn u) = true := by kernel_rfl
        exact (show Tryd.prog.wantsStandIn t = false by simpa using List.all_eq_true.1 hall t hm)⟩)
    (by kernel_rfl)
end Go.Proofs.YtaidpalamhmghaaDoor.fnRulesMoveOfAll
namespace Go.Proofs.YtaidpalamhmghaaDoor
theorem fnRulesMoveOfAll_holds : Rows.FnRulesMoveOfAllCardSaid := fnRulesMoveOfAll.card
end Go.Proofs.YtaidpalamhmghaaDoor
