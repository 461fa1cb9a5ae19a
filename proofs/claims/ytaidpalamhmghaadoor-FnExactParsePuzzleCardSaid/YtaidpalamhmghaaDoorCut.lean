/- Rows cut short; what is cut off cleared. No condition. -/
import Derived.Test.YtaidpalamhmghaaDoorExt
import Derived.Test.YtaidpalamhmghaaDoorLoop
namespace Go.Proofs.YtaidpalamhmghaaDoor.X
open Go.RowKit
set_option linter.unusedVariables false
set_option linter.unusedSimpArgs false

theorem flat_len' (ρ : Nm) {sz : Nat} : ∀ {es : List (List C)}, plainEs sz es → (flat ρ es).length = es.length * sz
  | [], _ => by simp [flat]
  | x :: es, h => by
    have h1 := flat_len' ρ (es := es) fun y hy => h y (List.mem_cons_of_mem _ hy)
    have h2 := (h x List.mem_cons_self).1
    unfold flat at h1 ⊢
    rw [List.flatten_cons, List.map_append, List.length_append, h1, List.length_map, h2, List.length_cons, Nat.succ_mul]; omega
theorem flat_app (ρ : Nm) (es es' : List (List C)) : flat ρ (es ++ es') = flat ρ es ++ flat ρ es' := by
  unfold flat; rw [List.flatten_append, List.map_append]
theorem flat_take' (ρ : Nm) {sz n : Nat} {es : List (List C)} (h : plainEs sz es) (hn : n ≤ es.length) : flat ρ (es.take n) = (flat ρ es).take (n * sz) := by
  have h1 := flat_app ρ (es.take n) (es.drop n)
  rw [List.take_append_drop] at h1
  have h2 := flat_len' ρ (plain_take h n)
  rw [List.length_take, Nat.min_eq_left hn] at h2
  rw [h1, List.take_left' h2]
theorem flat_zeros (ρ : Nm) (zc : List C) (n : Nat) : flat ρ (List.replicate n zc) = (zerosC zc n).map (C.den ρ) := by
  rw [← flat_replicate_zeros ρ zc n n (Nat.le_refl _), List.take_of_length_le (by simp [length_zerosC])]

section
variable {ρ : Nm}
theorem sl_clear {r : Nat} {F : Nat → Prop} {T' : TypeId} {sz lo : Nat} {es : List (List C)} {zc : List C} {w : World} (h : Res.holds ρ r w F (.sl T' sz es)) (hlo : lo < es.length)
    (hzl : zc.length = sz) (hzp : ∀ c ∈ zc, c.names = [] ∧ c.one = true) :
    ∃ (g : Nat) (cur : Array Value), ρ.rb r = some ⟨g, 0, none⟩ ∧ ρ.rc r ≠ lo ∧ w.heap[g]? = some (.cells cur T' (0, 0)) ∧ lo * sz + 0 + ((zerosC zc (es.length - lo)).map (C.den ρ)).length ≤ cur.size ∧ (∀ b, F b → b = g) ∧ F g ∧
      Res.holds ρ r (w.setRow g (cur.toList.take (lo * sz + 0) ++ (zerosC zc (es.length - lo)).map (C.den ρ) ++ cur.toList.drop (lo * sz + 0 + ((zerosC zc (es.length - lo)).map (C.den ρ)).length)).toArray) F (.sl T' sz (es.take lo ++ List.replicate (es.length - lo) zc)) := by
  obtain ⟨hp, hn, ⟨hF, hlen, hown⟩ | ⟨_, he, _⟩⟩ := h
  case inr => subst he; simp at hlo
  rcases hown with ⟨_, h2⟩ | ⟨g, cap, cur, hv, hg0, hg, hnc, hcm, hcs, htk⟩
  · omega
  · have hv' := hv
    simp only [C.den, Value.slice.injEq] at hv'
    have hzs : ((zerosC zc (es.length - lo)).map (C.den ρ)).length = (es.length - lo) * sz := by rw [List.length_map, length_zerosC, hzl]
    have hsum : lo * sz + (es.length - lo) * sz = es.length * sz := by rw [← Nat.add_mul]; congr 1; omega
    have hcl : es.length * sz ≤ cur.size := by rw [hcs]; exact Nat.mul_le_mul_right _ hnc
    have hp' : plainEs sz (es.take lo ++ List.replicate (es.length - lo) zc) := plain_append (plain_take hp lo) fun x hx => by
      rw [List.eq_of_mem_replicate hx]; exact ⟨hzl, hzp⟩
    have hl' : (es.take lo ++ List.replicate (es.length - lo) zc).length = es.length := by simp; omega
    have hlt : (flat ρ es).take (lo * sz) = cur.toList.take (lo * sz) := by
      rw [← htk, List.take_take, Nat.min_eq_left (by omega)]
    refine ⟨g, cur, hv'.1, by omega, hg, by rw [hzs]; omega, fun b hb => ?_, (hF g).2 (by rw [hv]; rfl), hp', by rw [hl']; exact hn, .inl ⟨hF, ?_, .inr ⟨g, cap, _, by rw [hl']; exact hv, hg0, setRow_heap _ _ _ _ _ _ hg, by rw [hl']; exact hnc, hcm, ?_, ?_⟩⟩⟩
    · have := (hF b).1 hb
      rw [hv] at this
      exact (Option.some.inj this).symm
    · exact flat_len' ρ hp'
    · rw [hzs, ← hcs]
      simp only [Nat.add_zero, List.size_toArray, List.length_append, List.length_take, List.length_drop, hzs, Array.length_toList]
      omega
    · rw [hl', flat_app, flat_take' ρ hp (by omega), flat_zeros, hlt, hzs, Nat.add_zero, hsum, List.append_assoc]
      have e1 : (cur.toList.take (lo * sz) ++ (zerosC zc (es.length - lo)).map (C.den ρ)).length = es.length * sz := by
        rw [List.length_append, List.length_take, hzs, Array.length_toList, Nat.min_eq_left (by omega), hsum]
      rw [← List.append_assoc, List.take_left' e1]
theorem sl_cut {r z : Nat} {F : Nat → Prop} {T : TypeId} {sz n : Nat} {es : List (List C)} {w : World} (h : Res.holds ρ r w F (.sl T sz es)) (hn : n ≤ es.length) :
    Res.holds (ρ.upd z (ρ.adr z) (ρ.rb r) n (ρ.rc r)) z w F (.sl T sz (es.take n)) := by
  obtain ⟨hp, hrn, hc⟩ := h
  have hl : (es.take n).length = n := by simp; omega
  have hfl : flat (ρ.upd z (ρ.adr z) (ρ.rb r) n (ρ.rc r)) (es.take n) = flat ρ (es.take n) := by
    unfold flat
    refine List.map_congr_left fun c hc => (c.den_congr fun q hq => ?_).symm
    obtain ⟨x, hx, hcx⟩ := List.mem_flatten.1 hc
    rw [((plain_take hp n) x hx).2 c hcx |>.1] at hq
    cases hq
  refine ⟨plain_take hp n, by simp [Nm.upd, hl], ?_⟩
  rcases hc with ⟨hF, hlen, hown⟩ | ⟨hF, he, hrc⟩
  · rcases hown with ⟨hv, h0⟩ | ⟨g, cap, cur, hv, hg0, hg, hnc, hcm, hcs, htk⟩
    · refine .inl ⟨fun b => ?_, ?_, ?_⟩
      · rw [hF b]
        simp only [C.den, Value.slice.injEq] at hv
        simp [C.den, Nm.upd, hv.1, Value.ownBlock]
      · rw [hfl]; exact flat_len' ρ (plain_take hp n)
      · simp only [C.den, Value.slice.injEq] at hv
        refine .inl ⟨?_, by omega⟩
        simp only [C.den, Nm.upd, Value.slice.injEq]
        simp [hv.1, hv.2.2]; omega
    · simp only [C.den, Value.slice.injEq] at hv
      refine .inl ⟨fun b => ?_, ?_, ?_⟩
      · rw [hF b]; simp [C.den, Nm.upd, hv.1, Value.ownBlock]
      · rw [hfl]; exact flat_len' ρ (plain_take hp n)
      · refine .inr ⟨g, cap, cur, ?_, hg0, hg, by omega, hcm, hcs, ?_⟩
        · simp [C.den, Nm.upd, hv.1, hv.2.2, hl]
        · rw [hfl, hl, flat_take' ρ hp hn, ← htk, List.take_take]
          congr 1
          exact (Nat.min_eq_left (Nat.mul_le_mul_right _ hn)).symm
  · exact .inr ⟨hF, by rw [he]; simp, by simp [Nm.upd, hrc]⟩
end

theorem cellsPlain_ok {l : List C} (h : cellsPlain l = true) : ∀ c ∈ l, c.names = [] ∧ c.one = true := fun c hc => by
  have := List.all_eq_true.1 h c hc
  simp only [Bool.and_eq_true] at this
  exact ⟨by simpa using this.2, this.1⟩
theorem mem_zerosC {zc : List C} {c : C} : ∀ {n : Nat}, c ∈ zerosC zc n → c ∈ zc
  | 0, h => by cases h
  | n + 1, h => by
    rcases List.mem_append.1 h with h | h
    · exact h
    · exact mem_zerosC h

section
variable {P : Program} {tt : Ty} {N : Nat} {D0 : List Nat} {o : Oper} {env : Env} {mem : Mem} {k : St → Prop}
theorem RestVC2.clear (ht : TyOk P tt) {x : Operand} {T T' e : TypeId} {r lo sz len by_ : Nat} {zc : List C} {es : List (List C)} (ho : o.op = .call ⟨.builtin .clear, #[x], #[T]⟩) (hx : ev env x = some (.v (.c (.sub r lo sz len))))
    (hty : tyElemZ tt T = some (e, sz, by_, zc)) (hl : look mem r = some (.sl T' sz es)) (hle : lo + len = es.length)
    (h : k ⟨putE env o.dst (.tup []), memSet mem r (.sl T' sz (es.take lo ++ List.replicate len zc))⟩) : RestVC2 P N D0 o env mem k := by
  refine ⟨⟨?_⟩⟩
  intro X ρ a w next Q hX hd hA hW hk
  subst hX
  obtain ⟨hu, i, z, hi, hz, hsz, hby, hzs, hpos, hb1, hzl, hzp, hzd⟩ := tyElemZ_ok ht hty
  obtain ⟨rst, hp1, hp2⟩ := memSet_perm hl
  obtain ⟨F, hF, hF0⟩ := hW.mem
  obtain ⟨F1, hR1, _⟩ := hF.get hl
  have ex : a.eval x = C.den ρ (.sub r lo sz len) := ev_den hA hx
  by_cases h0 : len = 0
  · subst h0
    have e1 : es.take lo ++ List.replicate 0 zc = es := by rw [List.take_of_length_le (by omega)]; simp
    rw [e1] at h
    have hrun : (execOp a.eval o).run P w = .ok (.value (.tuple #[])) w := by
      have hcl : (Builtin.clear_ #[T] o.type #[a.eval x]).run P w = .ok (.tuple #[]) w := by
        rw [ex]
        simp only [C.den]
        generalize (if ρ.rc r = lo then ρ.rb r else (ρ.rb r).map (·.add (lo * sz))) = q
        cases q <;> simp [Builtin.clear_, run_underlying hu]
      simp only [execOp, ho, resolve, invoke, builtin, Sem.run_bind, Sem.run_pure, Result.andThen_ok, List.map_toArray, List.map_cons, List.map_nil, hcl]
    unfold Oper.wp
    rw [hrun, Oper.upon_value]
    exact hk _ ρ _ _ h (hA.put hd (.tup [])) ((hW.perm hp1).perm (hp2 _))
  · obtain ⟨g, cur, q1, q2, q3, q4, q5, q6, q7⟩ := sl_clear (lo := lo) (zc := zc) hR1 (by omega) hzl (cellsPlain_ok hzp)
    have hlen : es.length - lo = len := by omega
    rw [hlen] at q4 q7
    have hst := run_storeCells_at (P := P) g (lo * sz) T' ((zerosC zc len).map (C.den ρ)) 0 cur w q3 q4 (fun v hv => by
      obtain ⟨c, hc, rfl⟩ := List.mem_map.1 hv
      exact C.one_den ρ (cellsPlain_ok hzp c (mem_zerosC hc)).2)
    have hzc : (Builtin.zeroCells z.cells len).toList = (zerosC zc len).map (C.den ρ) := by
      have := zeros_den ρ zc (by omega) len
      rw [hzd ρ, hzl] at this
      unfold Builtin.zeroCells
      rw [hzs] at this ⊢
      rw [this]
    have hcl : (Builtin.clear_ #[T] o.type #[a.eval x]).run P w = .ok (.tuple #[]) (w.setRow g (cur.toList.take (lo * sz + 0) ++ (zerosC zc len).map (C.den ρ) ++ cur.toList.drop (lo * sz + 0 + ((zerosC zc len).map (C.den ρ)).length)).toArray) := by
      rw [ex]
      obtain ⟨m, rfl⟩ : ∃ m, len = m + 1 := ⟨len - 1, by omega⟩
      simp only [C.den, if_neg q2, q1, Option.map_some]
      have e0 : (⟨g, 0, none⟩ : Addr).add (lo * sz) = ⟨g, lo * sz, none⟩ := (add_none g 0 _).trans (by simp)
      rw [e0]
      have hzv : ∀ w, (zeroValue e).run P w = .ok z w := fun w => by simp [zeroValue, typeInfo, hi, hz]
      simp only [Builtin.clear_, Sem.run_bind, run_underlying hu, Result.andThen_ok, List.getElem?_toArray, List.getElem?_cons_zero, hzv, hzc, hst, Sem.run_pure]
    have hrun : (execOp a.eval o).run P w = .ok (.value (.tuple #[])) (w.setRow g (cur.toList.take (lo * sz + 0) ++ (zerosC zc len).map (C.den ρ) ++ cur.toList.drop (lo * sz + 0 + ((zerosC zc len).map (C.den ρ)).length)).toArray) := by
      simp only [execOp, ho, resolve, invoke, builtin, Sem.run_bind, Sem.run_pure, Result.andThen_ok, List.map_toArray, List.map_cons, List.map_nil, hcl]
    have hW' := (SatW.write (R' := .sl T' sz (es.take lo ++ List.replicate len zc)) (w' := w.setRow g (cur.toList.take (lo * sz + 0) ++ (zerosC zc len).map (C.den ρ) ++ cur.toList.drop (lo * sz + 0 + ((zerosC zc len).map (C.den ρ)).length)).toArray) hW hp1 rfl rfl rfl (by simp [World.setRow]) fun F2 hR2 => by
      obtain ⟨g', cur', r1, r2, r3, r4, r5, r6, r7⟩ := sl_clear (lo := lo) (zc := zc) hR2 (by omega) hzl (cellsPlain_ok hzp)
      rw [hlen] at r4 r7
      have hgg : g = g' := by rw [q1] at r1; simpa using r1
      subst hgg
      have hcc : cur = cur' := by rw [q3] at r3; simpa using r3
      subst hcc
      exact ⟨F2, r7, fun b hb => hb, fun b _ hb => setRow_other _ _ _ _ fun e => hb (e ▸ r6)⟩).perm (hp2 _)
    unfold Oper.wp
    rw [hrun, Oper.upon_value]
    exact hk _ ρ _ _ h (hA.put hd (.tup [])) hW'
end

/-! ### A row cut short, handed back -/
def C.uncut (z r sz n : Nat) : C → C
  | .sl q => match Nat.beq q z with
    | true => .sub r 0 sz n
    | false => .sl q
  | c => c
def V.uncut (z r sz n : Nat) : V → V
  | .c x => .c (x.uncut z r sz n)
  | .agg l => .agg (l.map (C.uncut z r sz n))
theorem C.den_uncut {ρ : Nm} {z r sz n : Nat} {c : C} (h : z ∉ (c.uncut z r sz n).names) : (c.uncut z r sz n).den ρ = c.den (ρ.upd z (ρ.adr z) (ρ.rb r) n (ρ.rc r)) := by
  have key : z ∉ c.names → c.den ρ = c.den (ρ.upd z (ρ.adr z) (ρ.rb r) n (ρ.rc r)) := fun hn => c.den_congr fun q hq => ρ.upd_agree fun e => hn (e ▸ hq)
  cases c with
  | sl q =>
    simp only [C.uncut] at h ⊢
    split
    · rename_i hb
      have := Nat.eq_of_beq_eq_true hb
      subst this
      have e0 : ∀ a : Addr, a.add 0 = a := fun a => by unfold Addr.add; simp
      simp only [C.den, Nm.upd, Nat.zero_mul, Nat.sub_zero, if_true]
      congr 1
      split
      · rfl
      · cases ρ.rb r <;> simp [e0]
    · rename_i hb
      rw [hb] at h
      exact key h
  | _ => exact key h
theorem C.den_list_uncut {ρ : Nm} {z r sz n : Nat} {l : List C} (h : z ∉ (l.map (C.uncut z r sz n)).flatMap C.names) : (l.map (C.uncut z r sz n)).map (C.den ρ) = l.map (C.den (ρ.upd z (ρ.adr z) (ρ.rb r) n (ρ.rc r))) := by
  rw [List.map_map]
  exact List.map_congr_left fun c hc => C.den_uncut fun hz => h (List.mem_flatMap.2 ⟨_, List.mem_map.2 ⟨c, hc, rfl⟩, hz⟩)
theorem V.den_uncut {ρ : Nm} {z r sz n : Nat} {v : V} (h : z ∉ (v.uncut z r sz n).names) : (v.uncut z r sz n).den ρ = v.den (ρ.upd z (ρ.adr z) (ρ.rb r) n (ρ.rc r)) := by
  cases v with
  | c x => exact C.den_uncut h
  | agg l => simp only [V.uncut, V.den, C.den_list_uncut h]
theorem V.den_list_uncut {ρ : Nm} {z r sz n : Nat} {l : List V} (h : z ∉ (l.map (V.uncut z r sz n)).flatMap V.names) : (l.map (V.uncut z r sz n)).map (V.den ρ) = l.map (V.den (ρ.upd z (ρ.adr z) (ρ.rb r) n (ρ.rc r))) := by
  rw [List.map_map]
  exact List.map_congr_left fun c hc => V.den_uncut fun hz => h (List.mem_flatMap.2 ⟨_, List.mem_map.2 ⟨c, hc, rfl⟩, hz⟩)
theorem pk_uncut {ρ : Nm} {z r sz n : Nat} (vs : List V) (h : z ∉ (vs.map (V.uncut z r sz n)).flatMap V.names) : pk ρ (vs.map (V.uncut z r sz n)) = pk (ρ.upd z (ρ.adr z) (ρ.rb r) n (ρ.rc r)) vs := by
  match vs with
  | [] => rfl
  | [v] => exact V.den_uncut (by simpa using h)
  | v :: u :: l =>
    have := V.den_list_uncut (ρ := ρ) h
    simp only [pk, List.map_cons] at this ⊢
    rw [this]

theorem SatW.cut {x : Cx} {ρ : Nm} {z r sz n : Nat} {T : TypeId} {es : List (List C)} {rest : Mem} {w : World} (hD : z ∉ x.D0) (hz : ∀ p ∈ rest, p.1 ≠ z ∧ z ∉ p.2.names) (hn : n ≤ es.length) (h : SatW x ρ ((r, .sl T sz es) :: rest) w) :
    SatW x (ρ.upd z (ρ.adr z) (ρ.rb r) n (ρ.rc r)) ((z, .sl T sz (es.take n)) :: rest) w := by
  obtain ⟨F, ⟨F1, F2, h1, h2, h3, h4⟩, h0⟩ := h.mem
  refine ⟨⟨F, ⟨F1, F2, h1, h2, sl_cut h3 hn, h4.congr fun p hp => ⟨ρ.upd_agree (hz p hp).1, fun d hd => ρ.upd_agree fun e => (hz p hp).2 (e ▸ hd)⟩⟩, h0⟩, h.os, h.tape, h.output, h.size, h.keep, fun q hq => ?_⟩
  exact (h.agr q hq).trans (ρ.upd_agree fun e => hD (e ▸ hq))

theorem RetVC.cut {D0 : List Nat} {vals : List V} {mem rest : Mem} {post : List V → Mem → Prop} {T : TypeId} {es : List (List C)} (z r sz n : Nat) (vs : List V) (hv : vals = vs.map (V.uncut z r sz n))
    (hm : pickL mem [r] = some ([(r, .sl T sz es)], rest)) (hn : n ≤ es.length) (hfr : freshN D0 [(0, .tup vals)] rest z = true) (h : RetVC D0 vs ((z, .sl T sz (es.take n)) :: rest) post) : RetVC D0 vals mem post := by
  obtain ⟨⟨vs', m', hp, hs⟩⟩ := h
  refine ⟨⟨vs', m', hp, fun x ρ w hx hW => ?_⟩⟩
  have hfr' := freshN_spec hfr
  subst hv
  have hW' := (hW.perm (pickL_perm hm)).cut (z := z) (hx ▸ hfr'.1) hfr'.2.2 hn
  obtain ⟨ρ', h1, h2⟩ := hs x _ w hx hW'
  exact ⟨ρ', h1, by rw [← h2]; exact pk_uncut vs (by simpa [E.names] using hfr'.2.1 (0, .tup (vs.map (V.uncut z r sz n))) (by simp))⟩
end Go.Proofs.YtaidpalamhmghaaDoor.X
