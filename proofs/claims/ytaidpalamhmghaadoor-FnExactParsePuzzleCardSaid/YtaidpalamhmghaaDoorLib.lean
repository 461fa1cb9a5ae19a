/- Go's library as the walk meets it: the laid contracts in the walk's own form. No condition. -/
import Derived.Test.YtaidpalamhmghaaDoorBase
import Derived.Test.YtaidpalamhmghaaDoorLays
namespace Go.Proofs.YtaidpalamhmghaaDoor.X
open Go.Proofs Go.Shelf Go.RowKit
set_option maxRecDepth 100000
set_option linter.unusedVariables false
set_option linter.unusedSimpArgs false

theorem Spec.ofBelow {P : Program} {f : FuncId} {args res : List V} (hok : FnOk P f) (ha : args.flatMap V.names = []) (hr : res.flatMap V.names = [])
    (h : ∀ w, Calls P f (args.map (V.den nm0)).toArray w fun e w' => e = .returned (pk nm0 res) ∧ Below w.heap.size w w') : Spec P f args [] (isRes res []) := by
  refine ⟨hok, fun ρ w F hM => ?_⟩
  have e1 : args.map (V.den ρ) = args.map (V.den nm0) := V.den_list_congr args fun r hr => by rw [ha] at hr; cases hr
  rw [e1]
  refine (h w).mono ?_
  rintro e w' ⟨rfl, hb⟩
  have e2 : res.map (V.den ρ) = res.map (V.den nm0) := V.den_list_congr res fun r h => by rw [hr] at h; cases h
  have e3 : pk nm0 res = pk ρ res := by
    match res, e2 with
    | [], _ => rfl
    | [v], e2 => exact (List.cons.inj e2).1.symm
    | v :: u :: l, e2 => simp only [pk, e2]
  exact ⟨ρ, res, [], fun _ => False, ⟨rfl, rfl⟩, by rw [e3], fun b h => h, fun b h => h.elim, ⟨hb.os, hb.tape, hb.output, hb.size, fun b hb' _ => hb.block b hb'⟩, fun r hr => by cases hr⟩

theorem trim_spec (s : List UInt8) (hs : s.length ≤ 1099511627776) : Spec Tryd.prog 132 [.c (.str s), .c (.str [46, 70, 84])] [] (isRes [.c (.str (Lib.trimS s [46, 70, 84]))] []) := by
  refine Spec.ofBelow ⟨_, Tryd.func132, by kernel_rfl, rfl⟩ rfl rfl fun w => ?_
  have h := Any.strings_Trim_laid Tryd.lays160 (by kernel_rfl) ⟨s.toArray⟩ ⟨#[46, 70, 84]⟩ w (by show s.length ≤ _; omega) (by decide) (ascii_of_all (by decide))
  exact h
theorem trimTF_spec (s : List UInt8) (hs : s.length ≤ 1099511627776) : Spec Tryd.prog 132 [.c (.str s), .c (.str [84, 70])] [] (isRes [.c (.str (Lib.trimS s [84, 70]))] []) := by
  refine Spec.ofBelow ⟨_, Tryd.func132, by kernel_rfl, rfl⟩ rfl rfl fun w => ?_
  have h := Any.strings_Trim_laid Tryd.lays160 (by kernel_rfl) ⟨s.toArray⟩ ⟨#[84, 70]⟩ w (by show s.length ≤ _; omega) (by decide) (ascii_of_all (by decide))
  exact h

/-- Used at 152. -/
theorem indexByte_contains (s : List UInt8) (b : UInt8) : decide (0 ≤ Lib.indexByte s b) = s.contains b := by
  induction s with
  | nil => rfl
  | cons c l ih =>
    have hge := Lib.indexByte_ge l b
    unfold Lib.indexByte
    by_cases h : c = b
    · subst h
      simp
    · have hc : (c == b) = false := by simpa using h
      simp only [hc, Bool.false_eq_true, if_false, List.contains_cons]
      rw [show (b == c) = false from by simpa using Ne.symm h, Bool.false_or, ← ih]
      by_cases h2 : Lib.indexByte l b = -1
      · simp [h2]
      · rw [if_neg (by simpa using h2)]
        rw [decide_eq_decide]
        omega

theorem contains_spec1 (s : List UInt8) (b : UInt8) : Spec Tryd.prog 152 [.c (.str s), .c (.str [b])] [] (isRes [.c (.bool (s.contains b))] []) := by
  refine Spec.ofBelow ⟨_, Tryd.func152, by kernel_rfl, rfl⟩ rfl rfl fun w => ?_
  have h := Tryd.strings_Contains_one ⟨s.toArray⟩ b w
  rw [← indexByte_contains]
  refine h.mono ?_
  rintro e w' ⟨rfl, rfl⟩
  exact ⟨by simp [V.den, C.den, pk], Below.refl _ _⟩

theorem count_spec1 (s : List UInt8) (b : UInt8) : Spec Tryd.prog 156 [.c (.str s), .c (.str [b])] [] (isRes [.c (.int .i64 (s.count b : Nat))] []) := by
  refine Spec.ofBelow ⟨_, Tryd.func156, by kernel_rfl, rfl⟩ rfl rfl fun w => ?_
  refine (Tryd.strings_Count_one ⟨s.toArray⟩ b w).mono ?_
  rintro e w' ⟨rfl, rfl⟩
  exact ⟨by simp [V.den, C.den, pk, Lib.countByte], Below.refl _ _⟩


theorem index_spec1 (s : List UInt8) (b : UInt8) : Spec Tryd.prog 123 [.c (.str s), .c (.str [b])] [] (isRes [.c (.int .i64 (Lib.indexByte s b))] []) := by
  refine Spec.ofBelow ⟨_, Tryd.func123, by kernel_rfl, rfl⟩ rfl rfl fun w => ?_
  refine (Tryd.strings_Index_one ⟨s.toArray⟩ b w).mono ?_
  rintro e w' ⟨rfl, rfl⟩
  exact ⟨by simp [V.den, C.den, pk], Below.refl _ _⟩

theorem indexByte_spec (s : List UInt8) (b : UInt8) : Spec Tryd.prog 200 [.c (.str s), .c (.int .u8 (b.toNat : Nat))] [] (isRes [.c (.int .i64 (Lib.indexByte s b))] []) := by
  refine Spec.ofBelow ⟨_, Tryd.func200, by kernel_rfl, rfl⟩ rfl rfl fun w => ?_
  refine (Tryd.strings_IndexByte ⟨s.toArray⟩ (b.toNat : Nat) w).mono ?_
  rintro e w' ⟨rfl, rfl⟩
  exact ⟨by simp [V.den, C.den, pk], Below.refl _ _⟩
end Go.Proofs.YtaidpalamhmghaaDoor.X
