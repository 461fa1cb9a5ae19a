/- strings.SplitSeq's iterator: what it hands to yield. No condition beyond each statement's. -/
import Derived.Test.YtaidpalamhmghaaDoorRnd
import Derived.Test.YtaidpalamhmghaaDoorLib
import Derived.Test.YtaidpalamhmghaaDoorSplit
import Derived.RangeFuncBound
import Derived.RangeFuncCalls
import Derived.RangeFuncLeaves
import Derived.Shelf.Abstract
import Derived.Shelf.RegionOpen
import Derived.WalkKit
import Derived.OwnWalkIn
import Derived.TacticsInMore
import Derived.LoopNIn
import Derived.LoopIn
namespace Go.Proofs.YtaidpalamhmghaaDoor.X
open Go.Shelf Go.RowKit Go.Proofs Go.Lib
set_option linter.unusedVariables false
set_option linter.unusedSimpArgs false
attribute [local go_sem] Oper.semAt_some

def lenB (b : Nat) (w : World) : Nat := match w.cell? ⟨b, 0, none⟩ with
  | some (.string t) => t.size
  | _ => 0
theorem lenB_eq {b : Nat} {w : World} {T : TypeId} {t : ByteArray} (h : Boxed w b T (.string t)) : lenB b w = t.size := by unfold lenB; rw [h.cell]

set_option maxHeartbeats 16000000 in
set_option maxRecDepth 1000000 in
theorem split_iter (s : ByteArray) (hs : s.size ≤ 1000000) (c : UInt8) (l n b1 b2 b3 : Nat) (h12 : b1 ≠ b2) (h13 : b1 ≠ b3) (h23 : b2 ≠ b3) (J : Nat → World → Prop)
    (hJ : ∀ i w v, J i w → J i (w.setCell ⟨b2, 0, none⟩ v))
    (hY : ∀ i x w m, (spl c s.data.toList)[i]? = some x → J i w → YieldAt Fence.wide m Tryd.prog l #[.string ⟨x.toArray⟩] w fun e w' => e = .returned (.bool true) ∧ J (i + 1) w' ∧ (∀ b, b = b1 ∨ b = b2 ∨ b = b3 → w'.heap[b]? = w.heap[b]?))
    (W : World) (sep : ByteArray) (hsep : sep = ⟨#[c]⟩) (hb1 : Boxed W b1 9 (.string sep)) (hb2 : Boxed W b2 9 (.string s)) (hb3 : Boxed W b3 3 (.int .i64 0)) (h0 : J 0 W) :
    CallsIn Fence.wide n Tryd.prog 144 #[.func (.yield l) #[] #[], .pointer (some ⟨b1, 0, none⟩), .pointer (some ⟨b2, 0, none⟩), .pointer (some ⟨b3, 0, none⟩)] W fun e W' => (∃ v, e = .returned v) ∧ J (spl c s.data.toList).length W' := by
  have hI : ∀ (t : ByteArray) (w : World), _ := fun t w => Tryd.strings_Index_one t c w
  have ho1 : sep.size = 1 := by rw [hsep]; rfl
  rw [← hsep] at hI
  clear hsep
  refine callsIn_of_wp Tryd.func144 rfl trivial ?_ rfl
  simp only [Tryd.ntmps144, List.size_toArray, List.length_cons, List.length_nil, Nat.reduceAdd, Nat.reduceSub, Array.replicate_succ, Array.replicate_zero, List.push_toArray, List.append_toArray, List.nil_append, List.cons_append]
  have c1 := hb1.cell
  have c2 := hb2.cell
  have c3 := hb3.cell
  gi_wp2
  gi_loopw [7] (fun _ wr => ∃ (i : Nat) (t : ByteArray), Boxed wr b1 9 (.string sep) ∧ Boxed wr b2 9 (.string t) ∧ Boxed wr b3 3 (.int .i64 0) ∧ Hid ((spl c s.data.toList).drop i = spl c t.data.toList) ∧ Hid (i < (spl c s.data.toList).length) ∧ J i wr ∧ t.size ≤ 1000000)
    (fun _ wr => lenB b2 wr)
  case atStart =>
    exact ⟨0, s, hb1, hb2, hb3, rfl, by
      show 0 < _
      cases e : spl c s.data.toList with
      | nil => exact absurd e (spl_ne _ _)
      | cons => simp, h0, hs⟩
  case round =>
    clear hb1 hb2 hb3 c1 c2 c3 h0
    obtain ⟨i, t, hb1, hb2, hb3, hsp, hil, hJi, hts⟩ := hrel
    have c1 := hb1.cell
    have c2 := hb2.cell
    have c3 := hb3.cell
    have hIt := hI t wr
    clear hI
    have htl : t.data.toList.length = t.size := (Lib.size_eq t).symm
    by_cases hz : indexByte t.data.toList c < 0
    · have h0 : (spl c s.data.toList).drop i = [t.data.toList] := by
        rw [hsp.out]; exact spl_last (List.count_eq_zero.2 fun hb => by
          obtain ⟨k, hk, e⟩ := List.getElem_of_mem hb
          have hge := Lib.indexByte_ge t.data.toList c
          exact Lib.indexByte_none (show indexByte t.data.toList c = -1 by omega) k (by rw [List.getElem?_eq_getElem hk, e]))
      have hget : (spl c s.data.toList)[i]? = some t.data.toList := by
        have := congrArg (fun l => l[0]?) h0; simpa using this
      have hend : i + 1 = (spl c s.data.toList).length := by
        have := congrArg List.length h0; simp at this; have := hil.out; omega
      obtain ⟨fn, tmps, assign, body, hy, hR⟩ := hY i _ wr (n - 1) hget hJi
      rw [show (⟨t.data.toList.toArray⟩ : ByteArray) = t by simp] at hy
      have A : Hid (i + 1 = (spl c s.data.toList).length) := hend
      clear h0 hget hend hY hJ hJi hb1 hb2 hb3
      gi_wp2_with (refine ⟨trivial, (fun h => by simp [Fence.wide] at h), ?_⟩; refine (callsIn_wide.2 hIt).mono ?_; rintro e w' ⟨rfl, hw⟩; rw [hw])
      refine ⟨fun h => by simp [Fence.wide] at h, hR.mono ?_⟩
      rintro e W3 ⟨rfl, hJ3, hk3⟩
      gi_wp2
      go_end0
      exact ⟨⟨_, rfl⟩, A.out ▸ hJ3⟩
    · obtain ⟨m, hm⟩ := Int.eq_ofNat_of_zero_le (show 0 ≤ indexByte t.data.toList c by omega)
      rw [hm] at hIt
      clear hz
      obtain ⟨hml, hcut, hnot⟩ := cut_index hm
      have hspt : spl c t.data.toList = t.data.toList.take m :: spl c (t.data.toList.drop (m + 1)) := by
        conv => lhs; rw [hcut]
        exact spl_app hnot
      have hget : (spl c s.data.toList)[i]? = some (t.data.toList.take m) := by
        have := congrArg (fun l => l[0]?) (hsp.out.trans hspt); simpa using this
      obtain ⟨fn, tmps, assign, body, hy, hR⟩ := hY i _ wr (n - 1) hget hJi
      have hx : (⟨(t.data.toList.take m).toArray⟩ : ByteArray) = t.extract 0 m := by
        apply ByteArray.ext; simp [Array.ext_iff]
      rw [hx] at hy
      have hmt : m < t.size := by omega
      have w1 : wrap64 (m : Int) = m := by unfold wrap64; omega
      have w2 : wrap64 ((m : Int) + 1) = ((m + 1 : Nat) : Int) := by unfold wrap64; omega
      have q1 : (0 : Int) ≤ (m : Int) := by omega
      have q2 : ¬ ((m : Int) < 0) := by omega
      have q3 : (m : Int) ≤ (t.size : Int) := by omega
      have q4 : (((m + 1 : Nat) : Int)) ≤ (t.size : Int) := by omega
      have q5 : (0 : Int) ≤ ((m + 1 : Nat) : Int) := by omega
      clear hcut hnot hget hx hY
      gi_wp2_with (refine ⟨trivial, (fun h => by simp [Fence.wide] at h), ?_⟩; refine (callsIn_wide.2 hIt).mono ?_; rintro e w' ⟨rfl, hw⟩; rw [hw])
      refine ⟨fun h => by simp [Fence.wide] at h, hR.mono ?_⟩
      rintro e W3 ⟨rfl, hJ3, hk3⟩
      have hb1' : Boxed W3 b1 9 (.string sep) := (hk3 b1 (.inl rfl)).trans hb1
      have hb2' : Boxed W3 b2 9 (.string t) := (hk3 b2 (.inr (.inl rfl))).trans hb2
      have hb3' : Boxed W3 b3 3 (.int .i64 0) := (hk3 b3 (.inr (.inr rfl))).trans hb3
      have hlen : Hid (lenB b2 wr = t.size) := lenB_eq hb2
      have d1 := hb1'.cell
      have d2 := hb2'.cell
      have d3 := hb3'.cell
      have f2 := hb2'.frozen
      clear hb1 hb2 hb3 c1 c2 c3 hk3 hJi hR hy hIt
      gi_wp2
      have hex : (t.extract (m + 1) t.size).data.toList = t.data.toList.drop (m + 1) := Lib.extract_to_end t (m + 1)
      have hszx : (t.extract (m + 1) t.size).size = t.size - (m + 1) := by rw [ByteArray.size_extract]; omega
      refine ⟨⟨i + 1, t.extract (m + 1) t.size, hb1'.other h12 _, hb2'.set _, hb3'.other (Ne.symm h23) _, ?_, ?_, hJ _ _ _ hJ3, by omega⟩, ?_⟩
      · show List.drop (i + 1) _ = _
        rw [hex, ← List.drop_drop, hsp.out, hspt]; rfl
      · show i + 1 < _
        have h := congrArg List.length (hsp.out.trans hspt)
        have := spl_ne c (t.data.toList.drop (m + 1))
        have : 0 < (spl c (t.data.toList.drop (m + 1))).length := List.length_pos_iff.2 this
        simp only [List.length_drop, List.length_cons] at h
        omega
      · rw [hlen.out, lenB_eq (hb2'.set _), hszx]; omega
end Go.Proofs.YtaidpalamhmghaaDoor.X
