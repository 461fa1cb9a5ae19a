/- strings.ReplaceAll of one sign by nothing: what it returns. No condition beyond each statement's. -/
import Derived.Test.YtaidpalamhmghaaDoorLib
import Derived.Shelf.Strings.Builder1
import Derived.Shelf.Strings.Builder2
import Derived.Lib.SlicesS
import Derived.Lib.ReplaceLaws
import Derived.Deep.LoopGhost
namespace Go.Proofs.YtaidpalamhmghaaDoor.X
open Go.Shelf Go.RowKit Go.Proofs Go.Lib
set_option linter.unusedVariables false
set_option linter.unusedSimpArgs false
/-! ### One sign taken out -/
def dropS (c : UInt8) (l : List UInt8) : List UInt8 := l.filter fun b => !(b == c)
theorem dropS_none {c : UInt8} {l : List UInt8} (h : l.count c = 0) : dropS c l = l := by
  unfold dropS
  rw [List.filter_eq_self]
  intro b hb
  have h1 := List.count_eq_zero.1 h
  simp only [Bool.not_eq_true', beq_eq_false_iff_ne]
  intro e; subst e; exact h1 hb
/-- Where the sign comes first. -/
theorem first_at (c : UInt8) : ∀ l : List UInt8, 1 ≤ l.count c → ∃ j : Nat, Lib.indexByte l c = (j : Int) ∧ j < l.length ∧ dropS c l = l.take j ++ dropS c (l.drop (j + 1)) ∧ (l.drop (j + 1)).count c + 1 = l.count c
  | [], h => by simp at h
  | b :: r, h => by
    by_cases e : b = c
    · subst e
      refine ⟨0, by simp [Lib.indexByte], by simp, by simp [dropS], by simp⟩
    · have hb : (b == c) = false := by simpa using e
      have h2 : 1 ≤ r.count c := by rw [List.count_cons, hb] at h; simpa using h
      obtain ⟨j, h3, h4, h5, h6⟩ := first_at c r h2
      refine ⟨j + 1, ?_, by simp only [List.length_cons]; omega, ?_, ?_⟩
      · unfold Lib.indexByte
        rw [hb, h3]
        have hj : ((j : Int) == -1) = false := by rw [beq_eq_false_iff_ne]; omega
        simp only [Bool.false_eq_true, if_false, hj]
        push_cast; rfl
      · have : dropS c (b :: r) = b :: dropS c r := by unfold dropS; rw [List.filter_cons, hb]; rfl
        rw [this, h5]; simp
      · rw [List.count_cons, hb]; simpa using h6

/-! ### The library's walk -/
set_option maxHeartbeats 16000000 in
set_option maxRecDepth 1000000 in
theorem replace_one {P : Program} {ρ : Ren} (L : Lays.n154 P ρ) (X : Builder.Extra P ρ) (s : ByteArray) (c : UInt8) (w : World) (hs : s.size ≤ 1000000) :
    Calls P (ρ.f 154) #[.string s, .string ⟨#[c]⟩, .string ⟨#[]⟩, .int .i64 (-1)] w fun e w' => e = .returned (.string ⟨(dropS c s.data.toList).toArray⟩) ∧ Below w.heap.size w w' := by
  obtain ⟨old, hold⟩ : ∃ old : ByteArray, old = ⟨#[c]⟩ := ⟨_, rfl⟩
  obtain ⟨new, hnew⟩ : ∃ new : ByteArray, new = ⟨#[]⟩ := ⟨_, rfl⟩
  have hC := Any.strings_Count_one { L with } s c w
  have hI : ∀ (t : ByteArray) (w : World), _ := fun t w => Any.strings_Index_one { L with } t c w
  rw [← hold] at hC hI
  rw [← hold, ← hnew]
  have ho1 : old.size = 1 := by rw [hold]; rfl
  have hn0 : new.size = 0 := by rw [hnew]; rfl
  have hnl : new.data.toList = [] := by rw [hnew]
  have hbeq : (old.toList == new.toList) = false := (Lib.bytes_beq_false_iff old new).2 (fun e => by rw [e] at ho1; omega)
  clear hold hnew
  have hlenL : s.data.toList.length = s.size := (Lib.size_eq s).symm
  have mixed := L.mixed
  have t72 := L.t72; have a72 := L.a72; have z72 := L.z72; have v72 := L.v72; have u72 := run_underlying L.t72
  have t70 := L.t70; have a70 := L.a70; have z70 := L.z70; have v70 := L.v70; have u70 := run_underlying L.t70
  have t37 := L.t37; have a37 := L.a37; have z37 := L.z37; have v37 := L.v37; have u37 := run_underlying L.t37
  have t3 := L.t3; have a3 := L.a3; have z3 := L.z3; have v3 := L.v3; have u3 := run_underlying L.t3
  have t9 := L.t9; have a9 := L.a9; have z9 := L.z9; have v9 := L.v9; have u9 := run_underlying L.t9
  have t4 := L.t4; have a4 := L.a4; have z4 := L.z4; have v4 := L.v4; have u4 := run_underlying L.t4
  have e138 : ∀ args w, (callFunc (ρ.f 138) args).run P w = .ok (.enter (ρ.f 138) args) w := enters_of L.f138 (by kernel_rfl) rfl
  have e143 : ∀ args w, (callFunc (ρ.f 143) args).run P w = .ok (.enter (ρ.f 143) args) w := enters_of L.f143 (by kernel_rfl) rfl
  have e165 : ∀ args w, (callFunc (ρ.f 165) args).run P w = .ok (.enter (ρ.f 165) args) w := enters_of L.f165 (by kernel_rfl) rfl
  have e166 : ∀ args w, (callFunc (ρ.f 166) args).run P w = .ok (.enter (ρ.f 166) args) w := enters_of L.f166 (by kernel_rfl) rfl
  have e169 : ∀ args w, (callFunc (ρ.f 169) args).run P w = .ok (.enter (ρ.f 169) args) w := enters_of L.f169 (by kernel_rfl) rfl
  have hcn : Lib.countByte s.data.toList c = s.data.toList.count c := rfl
  have hcle : s.data.toList.count c ≤ s.size := by rw [← hlenL]; exact List.count_le_length
  rw [hcn] at hC
  by_cases hz : s.data.toList.count c = 0
  · rw [hz] at hC
    rw [dropS_none hz]
    go_enter L.f154, Body.n154_ntmps ρ
    go_wp2_with (first | (go_at_fn (ρ.f 138); refine hC.mono ?_; rintro e w' ⟨rfl, hw⟩; rw [hw]))
    go_ret
    exact ⟨rfl, Below.refl _ _⟩
  · obtain ⟨K, hK⟩ : ∃ K : Nat, s.data.toList.count c = K := ⟨_, rfl⟩
    rw [hK] at hC hz hcle
    have hga : (s.size : Int) + -(K : Int) = ((s.size - K : Nat) : Int) := by omega
    have hcz : ((K : Int) == 0) = false := beq_eq_false_iff_ne.2 (by omega)
    have ho0 : (0 : Int) < (old.size : Int) := by omega
    have hod : decide (0 < old.size) = true := decide_eq_true (by omega)
    go_enter L.f154, Body.n154_ntmps ρ
    go_wp2_with (first | (go_at_fn (ρ.f 138); refine hC.mono ?_; rintro e w' ⟨rfl, hw⟩; rw [hw]))
    try rw [hga]
    clear hC hga
    refine (Any.Builder_Grow_fresh { L with } X w.heap.size w.heap.size _ _ (Nat.le_refl _) (heap_alloc_new w _) (by simp) (by omega)).mono ?_
    rintro e w1 ⟨rfl, hb0, hb1⟩
    have H1 : Hid (Lib.IsBuilder (ρ.t 72) (ρ.t 5) w.heap.size w.heap.size (Lib.byteCells []) w1) := Or.inr hb0
    have Hb1 : Hid (Below w.heap.size w w1) := ((Below.refl w.heap.size w).alloc (Nat.le_refl _) _).trans hb1
    clear hb0 hb1
    go_wp2_with fail
    go_loopg [11, 53] K (fun g s11 s53 wx => ∃ (i start : Nat) (acc : List UInt8), s53 = .int .i64 i ∧ s11 = .int .i64 start ∧ i + g = K ∧ start ≤ s.size ∧
      Hid (Lib.IsBuilder (ρ.t 72) (ρ.t 5) w.heap.size w.heap.size (Lib.byteCells acc) wx) ∧ Hid (Below w.heap.size w wx) ∧ Hid (acc ++ dropS c (s.data.toList.drop start) = dropS c s.data.toList) ∧
      (s.data.toList.drop start).count c = g ∧ acc.length ≤ start)
    case atStart => exact ⟨0, 0, [], rfl, rfl, by omega, Nat.zero_le _, H1, Hb1, by show _ = _; simp, by simpa using hK, Nat.le_refl _⟩
    case round =>
      obtain ⟨i, start, acc, rfl, rfl, hig, hst, HB, HW, HR, hgc, hbd⟩ := hrel
      have hBw : w.heap.size ≤ wr.heap.size := HW.out.size
      have c1 : (0 : Int) ≤ (start : Int) := by omega
      have c2 : (start : Int) ≤ (s.size : Int) := by omega
      cases gk with
      | zero =>
        have hiK : ¬ ((i : Int) < (K : Int)) := by omega
        go_wp2_with fail
        refine (Any.Builder_WriteString { L with } X w.heap.size w.heap.size _ _ wr HB.out (by rw [Lib.byteCells_length, ByteArray.size_extract]; omega) hBw).mono ?_
        rintro e w3 ⟨rfl, h3, hb3⟩
        rw [Lib.strCells_eq, Lib.extract_to_end, ← Lib.byteCells_append] at h3
        have hfin : acc ++ s.data.toList.drop start = dropS c s.data.toList := by rw [← HR.out, dropS_none hgc]
        rw [hfin] at h3
        have H3 : Hid (Lib.IsBuilder (ρ.t 72) (ρ.t 5) w.heap.size w.heap.size _ w3) := Or.inr h3
        have Hb3 : Hid (Below w.heap.size w w3) := HW.out.trans hb3
        have hBw3 : w.heap.size ≤ w3.heap.size := Hb3.out.size
        clear h3 hb3 hfin
        go_wp2_with fail
        refine (Any.Builder_String_any { L with } X w.heap.size w.heap.size _ w3 H3.out hBw3).mono ?_
        rintro e w5 ⟨rfl, hb5⟩
        have Hb5 : Hid (Below w.heap.size w w5) := Hb3.out.trans hb5
        clear hb5
        go_wp2
        go_ret
        exact ⟨rfl, Hb5.out⟩
      | succ g =>
        have hiK : (i : Int) < (K : Int) := by omega
        obtain ⟨j, hj, hjl, hjd, hjc⟩ := first_at c (s.data.toList.drop start) (by omega)
        have hdl : (s.data.toList.drop start).length = s.size - start := by rw [List.length_drop, hlenL]
        rw [hdl] at hjl
        rw [List.drop_drop] at hjd hjc
        have c3 : (start : Int) ≤ (start : Int) + (j : Int) := by omega
        have c4 : (start : Int) + (j : Int) ≤ (s.size : Int) := by omega
        have htl : ((s.data.toList.drop start).take j).length = j := by rw [List.length_take, hdl]; omega
        have Hn : Hid (Lib.byteCells acc ++ Lib.strCells (s.extract start (start + j)) ++ Lib.strCells new = Lib.byteCells (acc ++ (s.data.toList.drop start).take j)) := by
          show _ = _
          rw [Lib.strCells_eq, Lib.strCells_eq, Lib.extract_data, Nat.add_sub_cancel_left, hnl, Lib.byteCells_append]
          simp [Lib.byteCells]
        have Hrep : Hid ((acc ++ (s.data.toList.drop start).take j) ++ dropS c (s.data.toList.drop (start + j + 1)) = dropS c s.data.toList) := by
          show _ = _
          rw [← HR.out, hjd, List.append_assoc, Nat.add_assoc]
        have hcnt : (s.data.toList.drop (start + j + 1)).count c = g := by
          rw [show start + j + 1 = start + (j + 1) by omega]; omega
        clear HR hjd hjc
        go_wp2_with (first | (go_at_fn (ρ.f 143); refine (hI _ _).mono ?_; rintro e w' ⟨rfl, hw⟩; rw [hw, Lib.extract_to_end, hj]))
        refine (Any.Builder_WriteString { L with } X w.heap.size w.heap.size _ (s.extract start (start + j)) wr HB.out (by rw [Lib.byteCells_length, ByteArray.size_extract]; omega) hBw).mono ?_
        rintro e w3 ⟨rfl, h3, hb3⟩
        have hBw3 : w.heap.size ≤ w3.heap.size := Nat.le_trans hBw hb3.size
        have H3 : Hid (Lib.BuilderAt (ρ.t 72) (ρ.t 5) w.heap.size w.heap.size _ _ w3) := h3
        have Hb3 : Hid (Below w.heap.size wr w3) := hb3
        clear h3 hb3
        go_wp2_with fail
        refine (Any.Builder_WriteString { L with } X w.heap.size w.heap.size _ new w3 (Or.inr H3.out) (by rw [List.length_append, Lib.byteCells_length, Lib.strCells_length, ByteArray.size_extract]; omega) hBw3).mono ?_
        rintro e w4 ⟨rfl, h4, hb4⟩
        rw [Hn.out] at h4
        have H4 : Hid (Lib.IsBuilder (ρ.t 72) (ρ.t 5) w.heap.size w.heap.size _ w4) := Or.inr h4
        have Hb4 : Hid (Below w.heap.size w w4) := (HW.out.trans Hb3.out).trans hb4
        clear h4 hb4
        go_wp2
        go_roundg g
        case measure => omega
        case rel => exact ⟨i + 1, start + j + 1, _, by first | rfl | (simp; unfold wrap64; omega), by first | rfl | simp | (simp; unfold wrap64; omega), by omega, by omega, H4, Hb4, Hrep, hcnt, by simp only [List.length_append, htl]; omega⟩
end Go.Proofs.YtaidpalamhmghaaDoor.X
