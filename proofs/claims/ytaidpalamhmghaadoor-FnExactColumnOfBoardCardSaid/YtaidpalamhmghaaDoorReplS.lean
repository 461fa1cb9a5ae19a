/- strings.ReplaceAll of one sign by nothing: its contract. No condition beyond the statement's. -/
import Derived.Test.YtaidpalamhmghaaDoorRepl
import Derived.Test.YtaidpalamhmghaaDoorLays2
namespace Go.Proofs.YtaidpalamhmghaaDoor.X
open Go.Shelf Go.RowKit Go.Proofs Go.Lib
set_option linter.unusedVariables false
set_option linter.unusedSimpArgs false
set_option maxHeartbeats 4000000 in
set_option maxRecDepth 1000000 in
theorem replaceAll_one {P : Program} {ρ : Ren} (L : Lays.n155 P ρ) (X : Builder.Extra P ρ) (s : ByteArray) (c : UInt8) (w : World) (hs : s.size ≤ 1000000) :
    Calls P (ρ.f 155) #[.string s, .string ⟨#[c]⟩, .string ⟨#[]⟩] w fun e w' => e = .returned (.string ⟨(dropS c s.data.toList).toArray⟩) ∧ Below w.heap.size w w' := by
  have k := replace_one { L with } X s c w hs
  have t3 := L.t3; have a3 := L.a3; have z3 := L.z3; have v3 := L.v3
  have t9 := L.t9; have a9 := L.a9; have z9 := L.z9; have v9 := L.v9
  have e154 : ∀ args w, (callFunc (ρ.f 154) args).run P w = .ok (.enter (ρ.f 154) args) w := enters_of L.f154 (by kernel_rfl) rfl
  go_enter L.f155, Body.n155_ntmps ρ
  go_wp2_with (go_at_fn (ρ.f 154); refine k.mono ?_; rintro e w' ⟨rfl, hw⟩)
  go_ret
  exact ⟨rfl, hw⟩
theorem replaceAll_spec (s : List UInt8) (c : UInt8) (hs : s.length ≤ 1000000) : Spec Tryd.prog 124 [.c (.str s), .c (.str [c]), .c (.str [])] [] (isRes [.c (.str (dropS c s))] []) := by
  refine Spec.ofBelow ⟨_, Tryd.func124, by kernel_rfl, rfl⟩ rfl rfl fun w => ?_
  refine (replaceAll_one Tryd.lays155 Tryd.Builder_Extra_155 ⟨s.toArray⟩ c w (by show s.length ≤ _; exact hs)).mono ?_
  rintro e w' ⟨rfl, hb⟩
  exact ⟨by simp [V.den, C.den, pk], hb⟩
end Go.Proofs.YtaidpalamhmghaaDoor.X
