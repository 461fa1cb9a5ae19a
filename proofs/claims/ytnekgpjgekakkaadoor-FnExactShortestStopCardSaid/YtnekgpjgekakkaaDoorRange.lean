/- Ranges over a map whose keys are texts and whose elements are whole numbers. No condition. -/
import Derived.Test.YtnekgpjgekakkaaDoorExt
import Derived.Test.YtnekgpjgekakkaaDoorNest
import Derived.Maps.RangeRun
namespace Go.Proofs.YtnekgpjgekakkaaDoor.X
open Go.RowKit
set_option linter.unusedVariables false
set_option linter.unusedSimpArgs false

def kvV (p : List UInt8 × Int) : Value × Value := (.string ⟨p.1.toArray⟩, .int .i64 p.2)
def kvE (l : List (List UInt8 × Int)) : List (C × V) := l.map fun p => (.str p.1, .c (.int .i64 p.2))
/-- An iterator with its map: what is left, and the entry that came last. -/
def itP (rem : List (List UInt8 × Int)) (last : Option (List UInt8 × Int)) (a : Nat) (w : World) (F : Nat → Prop) : Prop :=
  ∃ (bm : Nat) (ents : Array MapEntry) (clock : Nat) (seen : Array Nat), a ≠ bm ∧ (∀ b, F b ↔ b = a ∨ b = bm) ∧ w.heap[bm]? = some (.map ents clock) ∧ MapKept.Stamped ents clock ∧
    w.heap[a]? = some (.mapIter (some bm) clock seen clock) ∧ (ents.toList.filter fun e => !seen.contains e.born).map (fun e => (e.key, e.val)) = rem.map kvV ∧
    (∀ p, last = some p → ∃ s e, seen = Array.push s e.born ∧ e ∈ ents.toList ∧ (e.key, e.val) = kvV p)
theorem itP_loc (rem : List (List UInt8 × Int)) (last : Option (List UInt8 × Int)) (a : Nat) (w w' : World) (F : Nat → Prop) (hf : ∀ b, F b → w'.heap[b]? = w.heap[b]?) (h : itP rem last a w F) : itP rem last a w' F := by
  obtain ⟨bm, ents, clock, seen, h0, h1, h2, h3, h4, h5⟩ := h
  exact ⟨bm, ents, clock, seen, h0, h1, by rw [hf _ ((h1 _).2 (.inr rfl))]; exact h2, h3, by rw [hf _ ((h1 _).2 (.inl rfl))]; exact h4, h5⟩
theorem itP_lt (rem : List (List UInt8 × Int)) (last : Option (List UInt8 × Int)) (a : Nat) (w : World) (F : Nat → Prop) (b : Nat) (h : itP rem last a w F) (hb : F b) : b < w.heap.size := by
  obtain ⟨bm, ents, clock, seen, h0, h1, h2, h3, h4, h5⟩ := h
  rcases (h1 b).1 hb with rfl | rfl
  · exact (Array.getElem?_eq_some_iff.1 h4).1
  · exact (Array.getElem?_eq_some_iff.1 h2).1
def itR (rem : List (List UInt8 × Int)) (last : Option (List UInt8 × Int)) : Res := .pr (itP rem last) (itP_loc rem last) (itP_lt rem last)

theorem filter_push {l s1 s2 : List MapEntry} {seen : Array Nat} {e : MapEntry} (hn : (l.map (·.born)).Nodup) (h : l.filter (fun x => !seen.contains x.born) = s1 ++ e :: s2) :
    l.filter (fun x => !(seen.push e.born).contains x.born) = s1 ++ s2 := by
  have e1 : l.filter (fun x => !(seen.push e.born).contains x.born) = (l.filter (fun x => !seen.contains x.born)).filter (fun x => !(x.born == e.born)) := by
    rw [List.filter_filter]
    refine List.filter_congr fun x _ => ?_
    have : (seen.push e.born).contains x.born = (seen.contains x.born || x.born == e.born) := by
      rw [Bool.eq_iff_iff]; simp [Array.mem_push]
    rw [this]
    cases seen.contains x.born <;> cases (x.born == e.born) <;> rfl
  have hn2 : ((s1 ++ e :: s2).map (·.born)).Nodup := by
    rw [← h]
    exact List.Nodup.sublist (List.Sublist.map _ List.filter_sublist) hn
  rw [e1, h, List.filter_append, List.filter_cons]
  simp only [beq_self_eq_true, Bool.not_true, Bool.false_eq_true, if_false]
  rw [List.map_append, List.map_cons, List.nodup_append] at hn2
  obtain ⟨_, h2, h3⟩ := hn2
  rw [List.nodup_cons] at h2
  have a1 : s1.filter (fun x => !(x.born == e.born)) = s1 := List.filter_eq_self.2 fun x hx => by
    have := h3 x.born (List.mem_map_of_mem hx) e.born (by simp)
    simp [this]
  have a2 : s2.filter (fun x => !(x.born == e.born)) = s2 := List.filter_eq_self.2 fun x hx => by
    have : x.born ≠ e.born := fun he => h2.1 (by rw [← he]; exact List.mem_map_of_mem hx)
    simp [this]
  rw [a1, a2]

section
variable {P : Program} {tt : Ty} {N : Nat} {D0 : List Nat} {o : Oper} {env : Env} {mem : Mem} {k : St → Prop}
theorem RestVC2.rangeMap (ht : TyOk P tt) {T d m : Nat} {x : Operand} {kd0 : Option IntKind} {e0 : TypeId} {l : List (List UInt8 × Int)} {rest : Mem} (ho : o.op = .range T x) (hdst : o.dst = some d) (hty : tyMap tt T = some (kd0, e0))
    (hx : ev env x = some (.v (.c (.mp m)))) (hm : takeN mem m = some (.ext (.mp none (kvE l)), rest)) (hmd : Nat.beq m d = false) (hfr : freshN D0 env rest d = true)
    (h : k ⟨(d, .v (.c (.ptr d 0))) :: env, (d, itR l none) :: rest⟩) : RestVC2 P N D0 o env mem k := by
  refine ⟨⟨?_⟩⟩
  intro X ρ a w next Q hX hd hA hW hk
  subst hX
  have hfr' := freshN_spec hfr
  obtain ⟨kk, hu, _⟩ := tyMap_ok ht hty
  obtain ⟨F, hF, hF0⟩ := hW.mem
  obtain ⟨F1, F2, h1, h2, ⟨p1, ents, clock, p2, p3, p4, p5⟩, h4⟩ := hF.perm (takeN_perm hm)
  have hlt := (Array.getElem?_eq_some_iff.1 p2).1
  have hrun : (execOp a.eval o).run P w = .ok (.value (.pointer (some ⟨w.heap.size, 0, none⟩))) (w.alloc (.mapIter (some (ρ.adr m)) clock #[] clock)) := by
    have := run_range_map (P := P) w T kk e0 (ρ.adr m) ents clock hu p2
    simp [execOp, ho, ev_den hA hx, E.den, V.den, C.den, this]
  let ρ' := ρ.upd d w.heap.size (ρ.rb d) (ρ.rn d) (ρ.rc d)
  have hag : ∀ r, r ≠ d → ρ.agree ρ' r := fun r h => ρ.upd_agree h
  have hd' : dstOk N (some d) = true := hdst ▸ hd
  have hden : C.den ρ' (.ptr d 0) = .pointer (some ⟨w.heap.size, 0, none⟩) := by simp [C.den, ρ', Nm.upd]
  unfold Oper.wp
  rw [hrun, Oper.upon_value, hdst]
  refine hk _ ρ' _ _ h ?_ ?_
  · have h1 := (hA.congr (ρ' := ρ') fun p hp r hr => hag r fun e => hfr'.2.1 p hp (e ▸ hr)).put hd' (.v (.c (.ptr d 0)))
    simpa only [E.den, V.den, hden, putE] using h1
  · refine hW.conv (m1 := [(m, .ext (.mp none (kvE l)))]) (w' := w.alloc (.mapIter (some (ρ.adr m)) clock #[] clock)) (takeN_perm hm) rfl rfl rfl (by simp) hag hfr'.1 hfr'.2.2 fun F hF => ?_
    obtain ⟨F1, F2, g1, g2, ⟨q1, ents', clock', q2, q3, q4, q5⟩, g4⟩ := hF
    rw [p2] at q2
    obtain ⟨rfl, rfl⟩ : ents = ents' ∧ clock = clock' := by simpa using q2
    refine ⟨fun b => b = w.heap.size ∨ b = ρ.adr m, ?_, fun b hb => ?_, fun b hb hn => heap_alloc_ne w _ hb⟩
    · have ea : ρ'.adr d = w.heap.size := by simp [ρ', Nm.upd]
      show itP l none (ρ'.adr d) _ _
      rw [ea]
      refine ⟨ρ.adr m, ents, clock, #[], by omega, fun b => Iff.rfl, by rw [heap_alloc_ne w _ hlt]; exact p2, p5, heap_alloc_new w _, ?_, fun p hp => by cases hp⟩
      have : (ents.toList.filter fun e => !(#[] : Array Nat).contains e.born) = ents.toList := List.filter_eq_self.2 fun x _ => by simp
      rw [this, p3]
      unfold kvE
      rw [List.map_map]
      refine List.map_congr_left fun p _ => ?_
      simp [kvV, C.den, V.den]
    · rcases hb with rfl | rfl
      · exact .inr (Nat.le_refl _)
      · exact .inl ((g1 _).2 (.inl ((q1 _).2 rfl)))
theorem RestVC2.nextMap {r : Nat} {x : Operand} {rem : List (List UInt8 × Int)} {last : Option (List UInt8 × Int)} (ho : o.op = .next x false)
    (hx : ev env x = some (.v (.c (.ptr r 0)))) (hr : look mem r = some (itR rem last))
    (h0 : rem = [] → k ⟨putE env o.dst (.tup [.c (.bool false)]), mem⟩)
    (h1 : ∀ l1 p l2, rem = l1 ++ p :: l2 → k ⟨putE env o.dst (.tup [.c (.bool true), .c (.str p.1), .c (.int .i64 p.2)]), memSet mem r (itR (l1 ++ l2) (some p))⟩) : RestVC2 P N D0 o env mem k := by
  refine ⟨⟨?_⟩⟩
  intro X ρ a w next Q hX hd hA hW hk
  subst hX
  obtain ⟨F, hF, hF0⟩ := hW.mem
  obtain ⟨F1, hR, hF1⟩ := hF.get hr
  replace hR : itP rem last (ρ.adr r) w F1 := hR
  obtain ⟨bm, ents, clock, seen, g0, g1, g2, g3, g4, g5, g6⟩ := hR
  have hex : a.eval x = .pointer (some ⟨ρ.adr r, 0, none⟩) := by simp [ev_den hA hx, E.den, V.den, C.den]
  rcases run_next_at (P := P) w o.type (ρ.adr r) bm clock clock seen ents clock g4 g2 (fun x hx => g3.1 x hx) (Nat.le_refl _) with ⟨q1, q2⟩ | ⟨e, q1, w1, q2, q3⟩
  · have hrem : rem = [] := by
      have : (ents.toList.filter fun e => !seen.contains e.born) = [] := by
        have : (leftOf ents seen).toList = [] := by
          have := Array.size_eq_zero_iff.1 q1
          rw [this]
        unfold leftOf at this
        rwa [Array.toList_filter] at this
      rw [this] at g5
      simpa using g5.symm
    refine value_wp (st := ⟨env, mem⟩) (e := .tup [.c (.bool false)]) (kk := k) hd hA hW ?_ (h0 hrem) hk
    simp only [execOp, ho, hex, q2, Sem.run_bind, Result.andThen_ok]
    simp [E.den, V.den, C.den, q2]
  · have hmem : e ∈ ents.toList.filter fun e => !seen.contains e.born := by
      unfold leftOf at q1
      rwa [Array.toList_filter] at q1
    obtain ⟨s1, s2, hs⟩ := List.append_of_mem hmem
    rw [hs, List.map_append, List.map_cons] at g5
    obtain ⟨l1, t, rfl, e1, e2⟩ := List.map_eq_append_iff.1 g5.symm
    obtain ⟨p, l2, rfl, e3, e4⟩ := List.map_eq_cons_iff.1 e2
    have hfp := filter_push g3.2.1 hs
    obtain ⟨rst, hp1, hp2⟩ := memSet_perm hr
    have hlr := (Array.getElem?_eq_some_iff.1 g4).1
    have hh : w1.heap = w.heap := by rcases q2 with rfl | rfl <;> rfl
    have hos : w1.os = w.os := by rcases q2 with rfl | rfl <;> rfl
    have htp : w1.tape = w.tape := by rcases q2 with rfl | rfl <;> rfl
    have hou : w1.output = w.output := by rcases q2 with rfl | rfl <;> rfl
    have hW' := (hW.write (R' := itR (l1 ++ l2) (some p)) (w' := ChangeMaps.setBlock w1 (ρ.adr r) (.mapIter (some bm) clock (seen.push e.born) clock)) hp1 hos htp hou (by simp [ChangeMaps.setBlock, hh]) fun F2 hR2 => by
      replace hR2 : itP (l1 ++ p :: l2) last (ρ.adr r) w F2 := hR2
      obtain ⟨bm', ents', clock', seen', k0, k1, k2, k3, k4, k5, k6⟩ := hR2
      rw [g4] at k4
      obtain ⟨rfl, rfl, rfl⟩ : bm = bm' ∧ clock = clock' ∧ seen = seen' := by
        simp at k4; exact ⟨k4.1, k4.2.1, k4.2.2.1⟩
      rw [g2] at k2
      obtain rfl : ents = ents' := by simpa using k2
      refine ⟨F2, ?_, fun b hb => hb, fun b hb hn => ?_⟩
      · show itP (l1 ++ l2) (some p) (ρ.adr r) _ _
        refine ⟨bm, ents, clock, seen.push e.born, g0, k1, ?_, g3, ?_, ?_, fun p' hp' => ?_⟩
        · simp only [ChangeMaps.setBlock, hh]
          rw [Array.getElem?_setIfInBounds_ne g0]; exact g2
        · simp [ChangeMaps.setBlock, hh, hlr]
        · rw [hfp, List.map_append, List.map_append, e1, e4]
        · cases hp'
          exact ⟨seen, e, rfl, (List.mem_filter.1 hmem).1, e3.symm⟩
      · simp only [ChangeMaps.setBlock, hh]
        have hne : b ≠ ρ.adr r := fun e => hn ((k1 b).2 (.inl e))
        rw [Array.getElem?_setIfInBounds_ne (Ne.symm hne)]).perm (hp2 _)
    have hrun : (execOp a.eval o).run P w = .ok (.value ((E.tup [.c (.bool true), .c (.str p.1), .c (.int .i64 p.2)]).den ρ)) (ChangeMaps.setBlock w1 (ρ.adr r) (.mapIter (some bm) clock (seen.push e.born) clock)) := by
      simp only [kvV, Prod.mk.injEq] at e3
      simp only [execOp, ho, hex, q3, Sem.run_bind, Result.andThen_ok]
      simp [E.den, V.den, C.den, q3, e3.1, e3.2]
    unfold Oper.wp
    rw [hrun, Oper.upon_value]
    exact hk _ ρ _ _ (h1 l1 p l2 rfl) (hA.put hd _) hW'
theorem RestVC2.entryMap {r : Nat} {x : Operand} {rem : List (List UInt8 × Int)} {p : List UInt8 × Int} (ho : o.op = .entry x)
    (hx : ev env x = some (.v (.c (.ptr r 0)))) (hr : look mem r = some (itR rem (some p)))
    (h : k ⟨putE env o.dst (.tup [.c (.str p.1), .c (.int .i64 p.2)]), mem⟩) : RestVC2 P N D0 o env mem k := by
  refine ⟨⟨?_⟩⟩
  intro X ρ a w next Q hX hd hA hW hk
  subst hX
  obtain ⟨F, hF, hF0⟩ := hW.mem
  obtain ⟨F1, hR, hF1⟩ := hF.get hr
  replace hR : itP rem (some p) (ρ.adr r) w F1 := hR
  obtain ⟨bm, ents, clock, seen, g0, g1, g2, g3, g4, g5, g6⟩ := hR
  obtain ⟨s, e, rfl, he, e3⟩ := g6 p rfl
  have hex : a.eval x = .pointer (some ⟨ρ.adr r, 0, none⟩) := by simp [ev_den hA hx, E.den, V.den, C.den]
  refine value_wp (st := ⟨env, mem⟩) (e := .tup [.c (.str p.1), .c (.int .i64 p.2)]) (kk := k) hd hA hW ?_ h hk
  have q := run_entry_at (P := P) w (ρ.adr r) bm clock s ents clock e g4 g2 he g3.2.1
  simp only [kvV, Prod.mk.injEq] at e3
  simp only [execOp, ho, hex, q, Sem.run_bind, Result.andThen_ok]
  simp [E.den, V.den, C.den, q, e3.1, e3.2]
end
end Go.Proofs.YtnekgpjgekakkaaDoor.X
