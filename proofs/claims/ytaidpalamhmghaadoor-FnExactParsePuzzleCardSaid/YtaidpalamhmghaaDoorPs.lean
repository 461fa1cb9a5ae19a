/- spec.ParsePuzzle: what it returns. No condition beyond each statement's. -/
import Derived.Test.YtaidpalamhmghaaDoorRd
namespace Go.Proofs.YtaidpalamhmghaaDoor.X
open Go.Proofs
set_option maxRecDepth 100000
set_option linter.unusedVariables false
set_option linter.unusedSimpArgs false
def w3 (w : Tx) : Bool := decide ((spl 46 w).length = 3)
def ppR (h r : Tx) : Option (Int × List Cl) := if r = [] then some (rdF h, []) else if (spl 44 r).all w3 = true then some (rdF h, clsW rdF (spl 44 r)) else none
def ppS (s : Tx) : Option (Int × List Cl) := if s.length ≤ 100 then match spl 58 s with
    | [h, r] => ppR h r
    | _ => none
  else none
def okS (s : Tx) : Bool := match ppS s with
  | some p => goodF p.1 p.2 && decide (pzT p.1 p.2 = s)
  | none => false
def nS (s : Tx) : Int := match ppS s with
  | some p => p.1
  | none => 0
def lS (s : Tx) : List Cl := match ppS s with
  | some p => p.2
  | none => []
def trPs : Tr := .take 0 (.take 2 (.take 3 (.take 4 (.take 6 (.take 7 (.take 8 (.take 10 (.take 11 (.take 12 (.alt 1 (.alt 5 (.alt 9 (.alt 13 (.alt 14 (.alt 15 (.alt 16 (.take 17 (.alt 18 .done .no)) .no) .no) .no) .no) .no) .no) (.alt 5 (.alt 1 (.alt 9 (.alt 13 (.alt 14 (.alt 15 (.alt 16 (.take 17 (.alt 18 .done .no)) .no) .no) .no) .no) .no) (.alt 9 (.alt 1 (.alt 13 (.alt 14 (.alt 15 (.alt 16 (.take 17 (.alt 18 .done .no)) .no) .no) .no) .no) (.alt 13 (.alt 1 (.alt 14 (.alt 15 (.alt 16 (.take 17 (.alt 18 .done .no)) .no) .no) .no) (.alt 14 (.alt 1 (.alt 15 (.alt 16 (.take 17 (.alt 18 .done .no)) .no) .no) (.alt 15 (.alt 1 (.alt 16 (.take 17 (.alt 18 .done .no)) .no) .no) .no)) .no)) .no)) .no)) .no)))))))))))

theorem pk_plain {res : List V} (hr : res.flatMap V.names = []) (ρ ρ' : Nm) : pk ρ res = pk ρ' res := by
  have e2 : res.map (V.den ρ) = res.map (V.den ρ') := V.den_list_congr res fun r h => by rw [hr] at h; cases h
  match res, e2 with
  | [], _ => rfl
  | [v], e2 => exact (List.cons.inj e2).1
  | v :: u :: l, e2 => simp only [pk, e2]
/-- The same with a nil row. -/
theorem Spec.nil1 {P : Program} {f : FuncId} {n : Int} {T : TypeId} {sz : Nat} {res : List V} (h : Spec P f [.agg [.int .i64 n, .sl 1000]] [(1000, .sl T sz [])] (isRes res [(1000, .sl T sz [])])) (hr : res.flatMap V.names = []) :
    Spec P f [.agg [.int .i64 n, .val (.slice none 0 0)]] [] (isRes res []) := by
  refine ⟨h.ok, fun ρ w F hM => ?_⟩
  let ρ0 : Nm := { ρ with rb := fun r => if r = 1000 then none else ρ.rb r, rn := fun r => if r = 1000 then 0 else ρ.rn r, rc := fun r => if r = 1000 then 0 else ρ.rc r }
  have hR : Res.holds ρ0 1000 w (fun _ => False) (.sl T sz []) := ⟨fun x hx => (by cases hx), rfl, Or.inr ⟨fun b h => h, rfl, rfl⟩⟩
  have hM0 : MemSat ρ0 [(1000, .sl T sz [])] w F := ⟨fun _ => False, F, fun b => ⟨fun h => .inr h, fun h => h.resolve_left id⟩, fun b h _ => h, hR, hM⟩
  have h1 := h.run ρ0 w F hM0
  have ea : ([V.agg [.int .i64 n, .sl 1000]].map (V.den ρ0)).toArray = ([V.agg [.int .i64 n, .val (.slice none 0 0)]].map (V.den ρ)).toArray := by simp [V.den, C.den, ρ0]
  rw [ea] at h1
  refine h1.mono ?_
  rintro e w' ⟨ρ', vs, m, F', ⟨rfl, rfl⟩, he, _, _, hfr, _⟩
  exact ⟨ρ, _, _, fun _ => False, ⟨rfl, rfl⟩, by rw [he, pk_plain hr ρ' ρ], fun b h => h, fun b h => h.elim, hfr, fun r hr => by cases hr⟩

set_option maxHeartbeats 8000000 in
theorem pzParse_spec (s : Tx) (hs : s.length ≤ 9223372036854775807) : Spec Tryd.prog 54 [.c (.str s)] []
    (isRes [.agg [.int .i64 (nS s), .sl 1001], vb (okS s)] [(1001, .sl 70 3 (esC (lS s)))]) := by
  by_cases hl : s.length ≤ 100
  · have h1 := Spec.ren [(1001, 2100)] [(2100, 1001)] (l1Split_spec s 58 (by omega)) rfl rfl rfl
    have hpp : ppS s = (match spl 58 s with | [h, r] => ppR h r | _ => none) := by unfold ppS; rw [if_pos hl]
    have hmany := spl_many 58 s
    have hpart := spl_part 58 s
    have fail : ppS s = none → okS s = false ∧ nS s = 0 ∧ lS s = [] := fun e => by simp [okS, nS, lS, e]
    generalize spl 58 s = parts at *
    match parts, hpp, hmany, hpart, h1 with
    | [], hpp, hmany, hpart, h1 =>
      obtain ⟨f1, f2, f3⟩ := fail hpp
      rw [f1, f2, f3]
      refine Spec.of_wpx tt_ok Tryd.func54 (by kernel_rfl) rfl ?_
      (repeat' ((conv => whnf); first | refine CondVC.t ?_ | refine CondVC.f ?_ | refine CondVC.dec (fun h => ?_) (fun h => ?_) | refine CondVC.ndec (fun h => ?_) (fun h => ?_) | refine CondVC.mk (fun h => ?_) (fun h => ?_) | refine ArVC.i64 (by first | omega | (simp only; omega)) ?_ | refine SideVC.mk (by first | omega | decide | (simp only; omega) | (simp [slS]; done) | (simp [slS]; omega) | (simp only [byteE_len, mvE_len, strE_len, intE_len, esC_len, List.length_cons, List.length_nil, List.length_append, List.length_replicate, List.length_set, Int.toNat_natCast, and_true] at *; omega)) ?_ | refine LoopN.go ?_ | exact trivial | refine AltVC.mk ?_ ?_ | refine HeldVC.mk rfl ?_ | refine CallVC.res [] rfl h1 rfl ?_ | refine OpVC.more tt_ok ?_ | refine RestVC.ext tt_ok ?_)); all_goals (conv => whnf)
      all_goals first
        | (exfalso; omega)
        | (exfalso; simp only [strE_len, List.length_cons, List.length_nil] at *; omega)
        | exact RetVC.nil 1001 70 3 [.agg [.int .i64 0, .sl 1001], vb false] [(2100, .sl 9 1 (strE ([]))), (2, .box 24 [.int .i64 0, .val (.slice none 0 0)])] rfl rfl rfl (RetVC.res rfl rfl)
    | [a], hpp, hmany, hpart, h1 =>
      obtain ⟨f1, f2, f3⟩ := fail hpp
      rw [f1, f2, f3]
      refine Spec.of_wpx tt_ok Tryd.func54 (by kernel_rfl) rfl ?_
      (repeat' ((conv => whnf); first | refine CondVC.t ?_ | refine CondVC.f ?_ | refine CondVC.dec (fun h => ?_) (fun h => ?_) | refine CondVC.ndec (fun h => ?_) (fun h => ?_) | refine CondVC.mk (fun h => ?_) (fun h => ?_) | refine ArVC.i64 (by first | omega | (simp only; omega)) ?_ | refine SideVC.mk (by first | omega | decide | (simp only; omega) | (simp [slS]; done) | (simp [slS]; omega) | (simp only [byteE_len, mvE_len, strE_len, intE_len, esC_len, List.length_cons, List.length_nil, List.length_append, List.length_replicate, List.length_set, Int.toNat_natCast, and_true] at *; omega)) ?_ | refine LoopN.go ?_ | exact trivial | refine AltVC.mk ?_ ?_ | refine HeldVC.mk rfl ?_ | refine CallVC.res [] rfl h1 rfl ?_ | refine OpVC.more tt_ok ?_ | refine RestVC.ext tt_ok ?_)); all_goals (conv => whnf)
      all_goals first
        | (exfalso; omega)
        | (exfalso; simp only [strE_len, List.length_cons, List.length_nil] at *; omega)
        | exact RetVC.nil 1001 70 3 [.agg [.int .i64 0, .sl 1001], vb false] [(2100, .sl 9 1 (strE ([a]))), (2, .box 24 [.int .i64 0, .val (.slice none 0 0)])] rfl rfl rfl (RetVC.res rfl rfl)
    | a :: b :: c :: l4, hpp, hmany, hpart, h1 =>
      obtain ⟨f1, f2, f3⟩ := fail hpp
      rw [f1, f2, f3]
      refine Spec.of_wpx tt_ok Tryd.func54 (by kernel_rfl) rfl ?_
      (repeat' ((conv => whnf); first | refine CondVC.t ?_ | refine CondVC.f ?_ | refine CondVC.dec (fun h => ?_) (fun h => ?_) | refine CondVC.ndec (fun h => ?_) (fun h => ?_) | refine CondVC.mk (fun h => ?_) (fun h => ?_) | refine ArVC.i64 (by first | omega | (simp only; omega)) ?_ | refine SideVC.mk (by first | omega | decide | (simp only; omega) | (simp [slS]; done) | (simp [slS]; omega) | (simp only [byteE_len, mvE_len, strE_len, intE_len, esC_len, List.length_cons, List.length_nil, List.length_append, List.length_replicate, List.length_set, Int.toNat_natCast, and_true] at *; omega)) ?_ | refine LoopN.go ?_ | exact trivial | refine AltVC.mk ?_ ?_ | refine HeldVC.mk rfl ?_ | refine CallVC.res [] rfl h1 rfl ?_ | refine OpVC.more tt_ok ?_ | refine RestVC.ext tt_ok ?_)); all_goals (conv => whnf)
      all_goals first
        | (exfalso; omega)
        | (exfalso; simp only [strE_len, List.length_cons, List.length_nil] at *; omega)
        | exact RetVC.nil 1001 70 3 [.agg [.int .i64 0, .sl 1001], vb false] [(2100, .sl 9 1 (strE (a :: b :: c :: l4))), (2, .box 24 [.int .i64 0, .val (.slice none 0 0)])] rfl rfl rfl (RetVC.res rfl rfl)
    | [u0, r], hpp, hmany, hpart, h1 =>
      replace hpp : ppS s = ppR u0 r := hpp
      have hh : u0.length ≤ 100 := by have := hpart u0 (by simp); omega
      have hr : r.length ≤ 100 := by have := hpart r (by simp); omega
      have c1 := l1Read_spec u0 (by omega)
      have g0 : (strE [u0, r])[Int.toNat 0]? = some [.str u0] := rfl
      have g1 : (strE [u0, r])[Int.toNat 1]? = some [.str r] := rfl
      by_cases hre : r = []
      · subst hre
        have hp : ppS s = some (rdF u0, []) := by rw [hpp]; unfold ppR; rw [if_pos rfl]
        have f1 : okS s = (goodF (rdF u0) [] && decide (pzT (rdF u0) [] = s)) := by simp only [okS, hp]
        have f2 : nS s = rdF u0 := by simp only [nS, hp]
        have f3 : lS s = [] := by simp only [lS, hp]
        have hgd := Spec.nil1 (pzGood_spec (rdF u0) []) rfl
        rw [f1, f2, f3]
        clear f1 f2 f3 hp hpp fail
        cases hg : goodF (rdF u0) [] with
        | false =>
          rw [hg] at hgd
          generalize rdF u0 = n at *
          rw [Bool.false_and]
          refine Spec.of_wpx tt_ok Tryd.func54 (by kernel_rfl) rfl ?_
          (repeat' ((conv => whnf); first | refine CondVC.t ?_ | refine CondVC.f ?_ | refine CondVC.dec (fun h => ?_) (fun h => ?_) | refine CondVC.ndec (fun h => ?_) (fun h => ?_) | refine CondVC.mk (fun h => ?_) (fun h => ?_) | refine ArVC.i64 (by first | omega | (simp only; omega)) ?_ | refine SideVC.mk (by first | omega | decide | (simp only; omega) | (simp [slS]; done) | (simp [slS]; omega) | (simp only [byteE_len, mvE_len, strE_len, intE_len, esC_len, List.length_cons, List.length_nil, List.length_append, List.length_replicate, List.length_set, Int.toNat_natCast, and_true] at *; omega)) ?_ | refine LoopN.go ?_ | exact trivial | refine AltVC.mk ?_ ?_ | refine HeldVC.mk rfl ?_ | refine CallVC.res [] rfl h1 rfl ?_ | refine LoadVC.mk _ g0 ?_ | refine LoadVC.mk _ g1 ?_ | refine CallVC.pure c1 rfl ?_ | refine CallVC.pure hgd rfl ?_ | refine DrawVC.tree (id := 16) tt_ok [5] tr54_16 (by kernel_rfl) (by kernel_rfl) rfl ?_ | refine OpVC.more tt_ok ?_ | refine RestVC.ext tt_ok ?_)); all_goals (conv => whnf)
          all_goals first
            | (exfalso; simp only [strE_len, List.length_cons, List.length_nil] at *; omega)
            | exact RetVC.nil 1001 70 3 [.agg [.int .i64 n, .sl 1001], vb false] [(5, .box 24 [.int .i64 n, .val (.slice none 0 0)]), (2100, .sl 9 1 (strE [u0, []])), (2, .box 24 [.int .i64 n, .val (.slice none 0 0)])] rfl rfl rfl (RetVC.res rfl rfl)
        | true =>
          have htx := Spec.nil1 (pzText_spec (rdF u0) [] hg) rfl
          rw [hg] at hgd
          generalize rdF u0 = n at *
          rw [Bool.true_and]
          generalize pzT n [] = tx at *
          refine Spec.of_wpx tt_ok Tryd.func54 (by kernel_rfl) rfl ?_
          (repeat' ((conv => whnf); first | refine CondVC.t ?_ | refine CondVC.f ?_ | refine CondVC.dec (fun h => ?_) (fun h => ?_) | refine CondVC.ndec (fun h => ?_) (fun h => ?_) | refine CondVC.mk (fun h => ?_) (fun h => ?_) | refine ArVC.i64 (by first | omega | (simp only; omega)) ?_ | refine SideVC.mk (by first | omega | decide | (simp only; omega) | (simp [slS]; done) | (simp [slS]; omega) | (simp only [byteE_len, mvE_len, strE_len, intE_len, esC_len, List.length_cons, List.length_nil, List.length_append, List.length_replicate, List.length_set, Int.toNat_natCast, and_true] at *; omega)) ?_ | refine LoopN.go ?_ | exact trivial | refine AltVC.mk ?_ ?_ | refine HeldVC.mk rfl ?_ | refine CallVC.res [] rfl h1 rfl ?_ | refine LoadVC.mk _ g0 ?_ | refine LoadVC.mk _ g1 ?_ | refine CallVC.pure c1 rfl ?_ | refine CallVC.pure hgd rfl ?_ | refine CallVC.pure htx rfl ?_ | refine DrawVC.tree (id := 16) tt_ok [5] tr54_16 (by kernel_rfl) (by kernel_rfl) rfl ?_ | refine OpVC.more tt_ok ?_ | refine RestVC.ext tt_ok ?_)); all_goals (conv => whnf)
          all_goals first
            | (exfalso; simp only [strE_len, List.length_cons, List.length_nil] at *; omega)
            | exact RetVC.nil 1001 70 3 [.agg [.int .i64 n, .sl 1001], vb (decide (tx = s))] [(5, .box 24 [.int .i64 n, .val (.slice none 0 0)]), (2100, .sl 9 1 (strE [u0, []])), (2, .box 24 [.int .i64 n, .val (.slice none 0 0)])] rfl rfl rfl (RetVC.res rfl rfl)
      · obtain ⟨W, hW⟩ : ∃ W, W = spl 44 r := ⟨_, rfl⟩
        have hp : ppS s = if W.all w3 = true then some (rdF u0, clsW rdF W) else none := by rw [hpp, hW]; unfold ppR; rw [if_neg hre]
        have hWl : W.length ≤ 101 := by have := spl_many 44 r; rw [hW]; omega
        have hWp : ∀ w ∈ W, w.length ≤ 100 := fun w hw => by have := spl_part 44 r w (hW ▸ hw); omega
        have h2 := Spec.ren [(1001, 2200)] [(2200, 1001)] (l1Split_spec r 44 (by omega)) rfl rfl rfl
        rw [← hW] at h2
        have hrl : 0 < r.length := List.length_pos_iff.2 hre
        have good : W.all w3 = true → okS s = (goodF (rdF u0) (clsW rdF W) && decide (pzT (rdF u0) (clsW rdF W) = s)) ∧ nS s = rdF u0 ∧ lS s = clsW rdF W := fun h => by
          rw [h, if_pos rfl] at hp; simp [okS, nS, lS, hp]
        have bad : W.all w3 = false → okS s = false ∧ nS s = 0 ∧ lS s = [] := fun h => fail (by rw [hp, h]; rfl)
        clear fail hp hpp hW
        generalize okS s = ok at *
        generalize nS s = n0 at *
        generalize lS s = l0 at *
        generalize rdF u0 = n at *
        refine Spec.of_wpx tt_ok Tryd.func54 (by kernel_rfl) rfl ?_
        (repeat' ((conv => whnf); first | refine CondVC.t ?_ | refine CondVC.f ?_ | refine CondVC.dec (fun h => ?_) (fun h => ?_) | refine CondVC.ndec (fun h => ?_) (fun h => ?_) | refine CondVC.mk (fun h => ?_) (fun h => ?_) | refine ArVC.i64 (by first | omega | (simp only; omega)) ?_ | refine SideVC.mk (by first | omega | decide | (simp only; omega) | (simp [slS]; done) | (simp [slS]; omega) | (simp only [byteE_len, mvE_len, strE_len, intE_len, esC_len, List.length_cons, List.length_nil, List.length_append, List.length_replicate, List.length_set, Int.toNat_natCast, and_true] at *; omega)) ?_ | refine LoopN.go ?_ | exact trivial | refine AltVC.mk ?_ ?_ | refine HeldVC.mk rfl ?_ | refine CallVC.res [] rfl h1 rfl ?_ | refine LoadVC.mk _ g0 ?_ | refine LoadVC.mk _ g1 ?_ | refine CallVC.pure c1 rfl ?_ | refine CallVC.res [] rfl h2 rfl ?_ | refine OpVC.more tt_ok ?_ | refine RestVC.ext tt_ok ?_)); all_goals (conv => whnf)
        all_goals try (exfalso; simp only [strE_len, List.length_cons, List.length_nil] at *; omega)
        refine LoopVC.mk (G := Nat) (fun i => ⟨[(34, .v (i64 i)), (33, .v (i64 (W.length : Nat))), (32, .v (.c (.sl 2200))), (5, .v (.c (.ptr 5 0))), (4, .v (.c (.sl 2100))), (3, .v (vb false)), (2, .v (.c (.ptr 2 0))), (0, .v (.c (.str s)))],
            [(3001, .sl 70 3 (esC (clsW rdF (W.take i)))), (2200, .sl 9 1 (strE W)), (5, .box 24 [.int .i64 n, .sl 3001]), (2100, .sl 9 1 (strE [u0, r])), (2, .box 24 [.int .i64 0, .val (.slice none 0 0)])]⟩)
          (fun i => i ≤ W.length ∧ ∀ w ∈ W.take i, w3 w = true) (fun i => W.length - i) 0 ⟨Nat.zero_le _, fun w hw => by simp at hw⟩ (Sub.nil 3001 70 3 ⟨rfl, by rw [← strE_len W]; rfl, rfl, rfl, rfl, rfl, rfl, rfl, trivial⟩ rfl rfl) ?_
        intro i ⟨hi, h3⟩
        have hcl : (clsW rdF (W.take i)).length ≤ 101 := by
          have := clsW_len rdF (W.take i)
          rw [List.length_take] at this; omega
        have hWs := strE_len W
        by_cases hil : i < W.length
        · have gk : (strE W)[(i : Int).toNat]? = some [.str W[i]] := by rw [Int.toNat_natCast]; exact strE_get' hil
          have hsn := clsW_snoc rdF W i W[i] (List.getElem?_eq_getElem hil)
          have hwl := hWp _ (List.getElem_mem hil)
          have hin : W[i] ∈ W := List.getElem_mem hil
          have htk : W.take (i + 1) = W.take i ++ [W[i]] := List.take_succ_eq_append_getElem hil
          have h4 := Spec.ren [(1001, 2300)] [(2300, 1001)] (l1Split_spec W[i] 46 (by omega)) rfl rfl rfl
          have hcw : w3 W[i] = decide ((spl 46 W[i]).length = 3) := rfl
          have hcw2 : clW rdF W[i] = (match spl 46 W[i] with | [a, b, c] => [(rdF a, rdF b, rdF c)] | _ => []) := rfl
          have hpart2 := spl_part 46 W[i]
          have hmany2 := spl_many 46 W[i]
          generalize hq : spl 46 W[i] = q at *
          by_cases hq3 : q.length = 3
          · obtain ⟨a, b, c, rfl⟩ : ∃ a b c, q = [a, b, c] := by
              match q, hq3 with
              | [a, b, c], _ => exact ⟨a, b, c, rfl⟩
            have d1 := l1Read_spec a (by have := hpart2 a (by simp); omega)
            have d2 := l1Read_spec b (by have := hpart2 b (by simp); omega)
            have d3 := l1Read_spec c (by have := hpart2 c (by simp); omega)
            have hall : ∀ w ∈ W.take (i + 1), w3 w = true := fun w hw => by
              rw [htk] at hw
              rcases List.mem_append.1 hw with hw | hw
              · exact h3 w hw
              · rw [List.mem_singleton] at hw; rw [hw, hcw]; rfl
            have hes : esC (clsW rdF (W.take (i + 1))) = esC (clsW rdF (W.take i)) ++ [clC (rdF a, rdF b, rdF c)] := by rw [hsn, hcw2, esC_append]; rfl
            clear hsn hcw2
            generalize clsW rdF (W.take i) = l at *
            generalize rdF a = ra at *
            generalize rdF b = rb at *
            generalize rdF c = rc at *
            (repeat' ((conv => whnf); first | refine CondVC.t ?_ | refine CondVC.f ?_ | refine CondVC.dec (fun h => ?_) (fun h => ?_) | refine CondVC.ndec (fun h => ?_) (fun h => ?_) | refine CondVC.mk (fun h => ?_) (fun h => ?_) | refine ArVC.i64 (by first | omega | (simp only; omega)) ?_ | refine SideVC.mk (by first | omega | decide | (simp only; omega) | (simp [slS]; done) | (simp [slS]; omega) | (simp only [byteE_len, mvE_len, strE_len, intE_len, esC_len, List.length_cons, List.length_nil, List.length_append, List.length_replicate, List.length_set, Int.toNat_natCast, and_true] at *; omega)) ?_ | refine LoopN.go ?_ | exact trivial | refine AltVC.mk ?_ ?_ | refine HeldVC.mk rfl ?_ | refine LoadVC.mk _ gk ?_ | refine CallVC.res [] rfl h4 rfl ?_ | refine LoadVC.mk _ rfl ?_ | refine CallVC.pure d1 rfl ?_ | refine CallVC.pure d2 rfl ?_ | refine CallVC.pure d3 rfl ?_ | refine SideVC.mk (by simp only [hWs]; omega) ?_ | refine SideVC.mk (by simp only [esC_len, List.length_cons, List.length_nil] at *; omega) ?_ | refine DrawVC.tree (id := 14) tt_ok [2300] trPs (by kernel_rfl) (by kernel_rfl) rfl ?_ | refine OpVC.more tt_ok ?_ | refine RestVC.ext tt_ok ?_)); all_goals (conv => whnf)
            all_goals first
              | (exfalso; simp only [strE_len, List.length_cons, List.length_nil] at *; omega)
              | exact ⟨i + 1, ⟨by omega, hall⟩, by omega, Sub.mk [(3001, 60)] _ ⟨rfl, rfl, rfl, rfl, rfl, rfl, rfl, rfl, trivial⟩ (by simp only [hes]; rfl) rfl⟩
          · obtain ⟨f1, f2, f3⟩ := bad (List.all_eq_false.2 ⟨W[i], hin, by rw [hcw, decide_eq_false hq3]; simp⟩)
            rw [f1, f2, f3]
            clear hsn hcw2 hcw
            generalize clsW rdF (W.take i) = l at *
            (repeat' ((conv => whnf); first | refine CondVC.t ?_ | refine CondVC.f ?_ | refine CondVC.dec (fun h => ?_) (fun h => ?_) | refine CondVC.ndec (fun h => ?_) (fun h => ?_) | refine CondVC.mk (fun h => ?_) (fun h => ?_) | refine ArVC.i64 (by first | omega | (simp only; omega)) ?_ | refine SideVC.mk (by first | omega | decide | (simp only; omega) | (simp [slS]; done) | (simp [slS]; omega) | (simp only [byteE_len, mvE_len, strE_len, intE_len, esC_len, List.length_cons, List.length_nil, List.length_append, List.length_replicate, List.length_set, Int.toNat_natCast, and_true] at *; omega)) ?_ | refine LoopN.go ?_ | exact trivial | refine AltVC.mk ?_ ?_ | refine HeldVC.mk rfl ?_ | refine LoadVC.mk _ gk ?_ | refine CallVC.res [] rfl h4 rfl ?_ | refine SideVC.mk (by simp only [hWs]; omega) ?_ | refine OpVC.more tt_ok ?_ | refine RestVC.ext tt_ok ?_)); all_goals (conv => whnf)
            all_goals first
              | (exfalso; simp only [strE_len, List.length_cons, List.length_nil] at *; omega)
              | exact RetVC.nil 1001 70 3 [.agg [.int .i64 0, .sl 1001], vb false] [(2300, .sl 9 1 (strE q)), (3001, .sl 70 3 (esC l)), (2200, .sl 9 1 (strE W)), (5, .box 24 [.int .i64 n, .sl 3001]), (2100, .sl 9 1 (strE [u0, r])), (2, .box 24 [.int .i64 0, .val (.slice none 0 0)])] rfl rfl rfl (RetVC.res rfl rfl)
        · have e : i = W.length := by omega
          subst e
          rw [List.take_length] at h3 hcl ⊢
          obtain ⟨f1, f2, f3⟩ := good (List.all_eq_true.2 h3)
          rw [f1, f2, f3]
          clear f1 f2 f3 good bad
          have hgd := Spec.ren [(1000, 3001)] [(3001, 1000)] (pzGood_spec n (clsW rdF W)) rfl rfl rfl
          cases hg : goodF n (clsW rdF W) with
          | false =>
            rw [hg] at hgd
            rw [Bool.false_and]
            generalize clsW rdF W = l at *
            (repeat' ((conv => whnf); first | refine CondVC.t ?_ | refine CondVC.f ?_ | refine CondVC.dec (fun h => ?_) (fun h => ?_) | refine CondVC.ndec (fun h => ?_) (fun h => ?_) | refine CondVC.mk (fun h => ?_) (fun h => ?_) | refine ArVC.i64 (by first | omega | (simp only; omega)) ?_ | refine SideVC.mk (by first | omega | decide | (simp only; omega) | (simp [slS]; done) | (simp [slS]; omega) | (simp only [byteE_len, mvE_len, strE_len, intE_len, esC_len, List.length_cons, List.length_nil, List.length_append, List.length_replicate, List.length_set, Int.toNat_natCast, and_true] at *; omega)) ?_ | refine LoopN.go ?_ | exact trivial | refine AltVC.mk ?_ ?_ | refine HeldVC.mk rfl ?_ | refine CallVC.res [3001] rfl hgd rfl ?_ | refine DrawVC.tree (id := 16) tt_ok [5, 3001] tr54_16 (by kernel_rfl) (by kernel_rfl) rfl ?_ | refine OpVC.more tt_ok ?_ | refine RestVC.ext tt_ok ?_)); all_goals (conv => whnf)
            all_goals first
              | (exfalso; omega)
              | exact RetVC.ren [(1001, 3001)] [.agg [.int .i64 n, .sl 1001], vb false] [(1001, .sl 70 3 (esC l))] rfl rfl rfl ⟨rfl, rfl⟩
          | true =>
            have htx := Spec.ren [(1000, 3001)] [(3001, 1000)] (pzText_spec n (clsW rdF W) hg) rfl rfl rfl
            rw [hg] at hgd
            rw [Bool.true_and]
            generalize clsW rdF W = l at *
            generalize pzT n l = tx at *
            (repeat' ((conv => whnf); first | refine CondVC.t ?_ | refine CondVC.f ?_ | refine CondVC.dec (fun h => ?_) (fun h => ?_) | refine CondVC.ndec (fun h => ?_) (fun h => ?_) | refine CondVC.mk (fun h => ?_) (fun h => ?_) | refine ArVC.i64 (by first | omega | (simp only; omega)) ?_ | refine SideVC.mk (by first | omega | decide | (simp only; omega) | (simp [slS]; done) | (simp [slS]; omega) | (simp only [byteE_len, mvE_len, strE_len, intE_len, esC_len, List.length_cons, List.length_nil, List.length_append, List.length_replicate, List.length_set, Int.toNat_natCast, and_true] at *; omega)) ?_ | refine LoopN.go ?_ | exact trivial | refine AltVC.mk ?_ ?_ | refine HeldVC.mk rfl ?_ | refine CallVC.res [3001] rfl hgd rfl ?_ | refine CallVC.res [3001] rfl htx rfl ?_ | refine DrawVC.tree (id := 16) tt_ok [5, 3001] tr54_16 (by kernel_rfl) (by kernel_rfl) rfl ?_ | refine OpVC.more tt_ok ?_ | refine RestVC.ext tt_ok ?_)); all_goals (conv => whnf)
            all_goals first
              | (exfalso; omega)
              | exact RetVC.ren [(1001, 3001)] [.agg [.int .i64 n, .sl 1001], vb (decide (tx = s))] [(1001, .sl 70 3 (esC l))] rfl rfl rfl ⟨rfl, rfl⟩
  · have e : ppS s = none := by unfold ppS; rw [if_neg hl]
    have f1 : okS s = false := by simp [okS, e]
    have f2 : nS s = 0 := by simp [nS, e]
    have f3 : lS s = [] := by simp [lS, e]
    rw [f1, f2, f3]
    refine Spec.of_wpx tt_ok Tryd.func54 (by kernel_rfl) rfl ?_
    (repeat' ((conv => whnf); first | refine CondVC.t ?_ | refine CondVC.f ?_ | refine CondVC.dec (fun h => ?_) (fun h => ?_) | refine CondVC.ndec (fun h => ?_) (fun h => ?_) | refine CondVC.mk (fun h => ?_) (fun h => ?_) | refine ArVC.i64 (by first | omega | (simp only; omega)) ?_ | refine SideVC.mk (by first | omega | decide | (simp only; omega) | (simp [slS]; done) | (simp [slS]; omega) | (simp only [byteE_len, mvE_len, strE_len, intE_len, esC_len, List.length_cons, List.length_nil, List.length_append, List.length_replicate, List.length_set, Int.toNat_natCast, and_true] at *; omega)) ?_ | refine LoopN.go ?_ | exact trivial | refine AltVC.mk ?_ ?_ | refine HeldVC.mk rfl ?_ | refine OpVC.more tt_ok ?_ | refine RestVC.ext tt_ok ?_)); all_goals (conv => whnf)
    all_goals try (exfalso; omega)
    all_goals exact RetVC.nil 1001 70 3 [.agg [.int .i64 0, .sl 1001], vb false] [(2, .box 24 [.int .i64 0, .val (.slice none 0 0)])] rfl rfl rfl (RetVC.res rfl rfl)

theorem specParse_spec (s : Tx) (hs : s.length ≤ 9223372036854775807) : Spec Tryd.prog 8 [.c (.str s)] []
    (isRes [.agg [.int .i64 (if okS s then nS s else 0), .sl 1001], vb (okS s)] [(1001, .sl 70 3 (esC (if okS s then lS s else [])))]) := by
  have h1 := Spec.ren [(1001, 2001)] [(2001, 1001)] (pzParse_spec s hs) rfl rfl rfl
  generalize okS s = ok at *
  generalize nS s = n at *
  generalize lS s = l at *
  cases ok with
  | true =>
    rw [if_pos rfl, if_pos rfl]
    refine Spec.of_wpx tt_ok Tryd.func8 (by kernel_rfl) rfl ?_
    (repeat' ((conv => whnf); first | refine CondVC.t ?_ | refine CondVC.f ?_ | refine CondVC.dec (fun h => ?_) (fun h => ?_) | refine CondVC.ndec (fun h => ?_) (fun h => ?_) | refine CondVC.mk (fun h => ?_) (fun h => ?_) | refine ArVC.i64 (by first | omega | (simp only; omega)) ?_ | refine SideVC.mk (by first | omega | decide | (simp only; omega) | (simp [slS]; done) | (simp [slS]; omega) | (simp only [byteE_len, mvE_len, strE_len, intE_len, esC_len, List.length_cons, List.length_nil, List.length_append, List.length_replicate, List.length_set, Int.toNat_natCast, and_true] at *; omega)) ?_ | refine LoopN.go ?_ | exact trivial | refine AltVC.mk ?_ ?_ | refine HeldVC.mk rfl ?_ | refine CallVC.res [] rfl h1 rfl ?_ | refine OpVC.more tt_ok ?_ | refine RestVC.ext tt_ok ?_)); all_goals (conv => whnf)
    all_goals exact RetVC.ren [(1001, 2001)] [.agg [.int .i64 n, .sl 1001], vb true] [(1001, .sl 70 3 (esC l))] rfl rfl rfl ⟨rfl, rfl⟩
  | false =>
    rw [if_neg Bool.false_ne_true, if_neg Bool.false_ne_true]
    refine Spec.of_wpx tt_ok Tryd.func8 (by kernel_rfl) rfl ?_
    (repeat' ((conv => whnf); first | refine CondVC.t ?_ | refine CondVC.f ?_ | refine CondVC.dec (fun h => ?_) (fun h => ?_) | refine CondVC.ndec (fun h => ?_) (fun h => ?_) | refine CondVC.mk (fun h => ?_) (fun h => ?_) | refine ArVC.i64 (by first | omega | (simp only; omega)) ?_ | refine SideVC.mk (by first | omega | decide | (simp only; omega) | (simp [slS]; done) | (simp [slS]; omega) | (simp only [byteE_len, mvE_len, strE_len, intE_len, esC_len, List.length_cons, List.length_nil, List.length_append, List.length_replicate, List.length_set, Int.toNat_natCast, and_true] at *; omega)) ?_ | refine LoopN.go ?_ | exact trivial | refine AltVC.mk ?_ ?_ | refine HeldVC.mk rfl ?_ | refine CallVC.res [] rfl h1 rfl ?_ | refine OpVC.more tt_ok ?_ | refine RestVC.ext tt_ok ?_)); all_goals (conv => whnf)
    all_goals exact RetVC.nil 1001 70 3 [.agg [.int .i64 0, .sl 1001], vb false] [(4, .box 24 [.int .i64 n, .sl 2001]), (2001, .sl 70 3 (esC l)), (2, .box 24 [.int .i64 0, .val (.slice none 0 0)])] rfl rfl rfl (RetVC.res rfl rfl)
end Go.Proofs.YtaidpalamhmghaaDoor.X
