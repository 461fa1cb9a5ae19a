/- The reference's plays to the last line, with its memo. No condition beyond each statement's. -/
import Derived.Test.YtblihaicbhdbdaaEdge
import Derived.Test.YtblihaicbhdbdaaCallE
namespace Go.Proofs.Ytblihaicbhdbdaa.X
open Go.Proofs
set_option maxRecDepth 100000
set_option linter.unusedVariables false
set_option linter.unusedSimpArgs false

def enM (x : Wy) : Mem := [(1000, .box 48 [.sl 1001, .sl 1002]), (1001, .sl 9 1 (strE x.1)), (1002, .sl 3 1 (intE x.2))]
/-- What is left: the rows under other names. -/
def enR (x : Wy) : Mem := [(1000, .box 48 [.sl 1011, .sl 1012]), (1011, .sl 9 1 (strE x.1)), (1012, .sl 3 1 (intE x.2))]
def EndS (w : Tx) : Prop := ∀ x0, okEn x0 → Spec Try.prog 39 [.c (.ptr 1000 0), .c (.str w)] (enM x0)
  (exRes (fun x => okEn x ∧ AddE x0 (wayF w + 1) x) (fun _ => [i64 (wp (lastF w) w)]) enR)

theorem ends_spec : ∀ (n : Nat) (w : Tx), wayF w < n → w.length ≤ 14 → w.all okCh = true → EndS w
  | 0, w, hn, _, _ => absurd hn (Nat.not_lt_zero _)
  | n + 1, w, hn, hwl, hok => by
    intro x0 hx0
    have hadd : ∀ x, okEn x → AddE x0 (wayF w) x → w ∉ x0.1 → okEn (x.1 ++ [w], x.2 ++ [wp (lastF w) w]) ∧ AddE x0 (wayF w + 1) (x.1 ++ [w], x.2 ++ [wp (lastF w) w]) := fun x h1 h2 h3 => okEn_add h1 hwl hok h2 h3
    have hget : ∀ (i : Nat) (hi : i < x0.1.length), x0.1[i] = w → x0.2[i]? = some (wp (lastF w) w) := fun i hi he => by have := (hx0.2.2 i hi).2; rwa [he] at this
    have hself : w = lastF w → wp (lastF w) w = 1 := fun e => by rw [← e]; exact wp_self w
    have hlast := liLast_spec w (by omega)
    have h5 := liMoves_spec w true true hok (by omega)
    rw [liMoves_eq hok] at h5
    have ekd : kindsF true true = both := rfl
    rw [ekd] at h5
    have hin : ∀ m ∈ movesF w both, _ := fun m hm => movesF_in hm
    have hll := movesF_len w both
    have hmk : ∀ m ∈ movesF w both, _ := fun m hm => liMake_spec w m (hin m hm).1 (hin m hm).2.1 (hin m hm).2.2 (by omega)
    have hW : ∀ m ∈ movesF w both, (∀ x0, okEn x0 → Spec Try.prog 39 [.c (.ptr 1000 0), .c (.str (madeF w m))] (enM x0)
        (exRes (fun x => okEn x ∧ AddE x0 (wayF (madeF w m) + 1) x) (fun _ => [i64 (wp (lastF w) (madeF w m))]) enR)) ∧ wayF (madeF w m) < wayF w := fun m hm =>
      have h1 := way_made hm
      ⟨by have := ends_spec n (madeF w m) (by omega) (by rw [madeF_len]; exact hwl) (okCh_made hok (by have := (hin m hm).1; omega)); unfold EndS at this; rwa [lastF_made hm] at this, h1⟩
    have hz := wpTo_zero (lastF w) w
    have hs : ∀ k (h : k < (movesF w both).length), _ := fun k h => wpTo_succ (lastF w) w h
    have he : w ≠ lastF w → ∀ k, (movesF w both).length ≤ k → wpTo (lastF w) w k = wp (lastF w) w := fun hne k h => wpTo_end hne h
    generalize hlw : lastF w = g at *
    generalize wpTo g w = pt at *
    generalize hwf : wp g w = wf at *
    generalize hl0 : movesF w both = l at *
    have hml := mvE_len l
    have hfinal : ∀ x', okEn x' → AddE x0 (wayF w) x' → w ∉ x0.1 → exRes (fun x => okEn x ∧ AddE x0 (wayF w + 1) x) (fun _ => [i64 wf]) enR [i64 wf]
        [(1000, .box 48 [.sl 1011, .sl 1012]), (1011, .sl 9 1 (strE x'.1 ++ [[.str w]])), (1012, .sl 3 1 (intE x'.2 ++ [[.int .i64 wf]]))] := fun x' h1 h2 h3 =>
      ⟨(x'.1 ++ [w], x'.2 ++ [wf]), hadd x' h1 h2 h3, rfl, by simp only [enR, strE_append, intE_append]; rfl⟩
    unfold enM enR at *
    refine Spec.of_wpx tt_ok Try.func39 (by kernel_rfl) rfl ?_
    (repeat' ((conv => whnf); first | refine CondVC.t ?_ | refine CondVC.f ?_ | refine CondVC.dec (fun h => ?_) (fun h => ?_) | refine CondVC.ndec (fun h => ?_) (fun h => ?_) | refine CondVC.mk (fun h => ?_) (fun h => ?_) | refine ArVC.i64 (by first | omega | (simp only; omega)) ?_ | refine SideVC.mk (by first | omega | decide | (simp only; omega) | (simp [slS]; done) | (simp [slS]; omega) | (simp only [byteE_len, mvE_len, strE_len, intE_len, esC_len, List.length_cons, List.length_nil, List.length_append, List.length_replicate, List.length_set, Int.toNat_natCast, and_true] at *; omega)) ?_ | refine LoopN.go ?_ | exact trivial | refine AltVC.mk ?_ ?_ | refine HeldVC.mk rfl ?_ | refine OpVC.more tt_ok ?_ | refine RestVC.ext tt_ok ?_)); all_goals (conv => whnf)
    have hfew0 := okEn_few hx0
    have hk0 := strE_len x0.1
    have hb0 := intE_len x0.2
    refine LoopVC.mk (G := Nat) (fun k => ⟨[(15, .v (i64 k)), (14, .v (i64 x0.1.length)), (13, .v (.c (.sl 1001))), (1, .v (.c (.str w))), (0, .v (.c (.ptr 1000 0)))],
        [(1000, .box 48 [.sl 1001, .sl 1002]), (1001, .sl 9 1 (strE x0.1)), (1002, .sl 3 1 (intE x0.2))]⟩)
      (fun k => k ≤ x0.1.length ∧ ∀ j (hj : j < x0.1.length), j < k → x0.1[j] ≠ w) (fun k => x0.1.length - k) 0 ⟨by omega, fun j hj h => by omega⟩ (Sub.mk [] _ ⟨rfl, by rw [hk0]; rfl, rfl, rfl, rfl, trivial⟩ rfl rfl) ?_
    intro k ⟨hk, hno⟩
    by_cases hlt : k < x0.1.length
    · have g1 : (strE x0.1)[(k : Int).toNat]? = some [.str x0.1[k]] := by rw [Int.toNat_natCast]; exact strE_get hlt
      by_cases he : x0.1[k] = w
      · have g2 : (intE x0.2)[(k : Int).toNat]? = some [.int .i64 wf] := by
          rw [Int.toNat_natCast]; unfold intE; rw [List.getElem?_map, hget k hlt he]; rfl
        have hlen := hx0.1
        (repeat' ((conv => whnf); first | refine CondVC.t ?_ | refine CondVC.f ?_ | refine CondVC.dec (fun h => ?_) (fun h => ?_) | refine CondVC.ndec (fun h => ?_) (fun h => ?_) | refine CondVC.mk (fun h => ?_) (fun h => ?_) | refine ArVC.i64 (by first | omega | (simp only; omega)) ?_ | refine SideVC.mk (by first | omega | decide | (simp only; omega) | (simp [slS]; done) | (simp [slS]; omega) | (simp only [byteE_len, mvE_len, strE_len, intE_len, esC_len, List.length_cons, List.length_nil, List.length_append, List.length_replicate, List.length_set, Int.toNat_natCast, and_true] at *; omega)) ?_ | refine LoopN.go ?_ | exact trivial | refine AltVC.mk ?_ ?_ | refine HeldVC.mk rfl ?_ | refine LoadVC.mk _ g1 ?_ | refine LoadVC.mk _ g2 ?_ | refine SideVC.mk (by rw [hk0]; omega) ?_ | refine SideVC.mk (by rw [hb0]; omega) ?_ | refine OpVC.more tt_ok ?_ | refine RestVC.ext tt_ok ?_)); all_goals (conv => whnf)
        all_goals first
          | (exfalso; omega)
          | exact RetVC.ren [(1011, 1001), (1012, 1002)] [i64 wf] [(1000, .box 48 [.sl 1011, .sl 1012]), (1011, .sl 9 1 (strE x0.1)), (1012, .sl 3 1 (intE x0.2))] rfl rfl rfl ⟨x0, ⟨hx0, AddE.refl _ _⟩, rfl, rfl⟩
          | (exfalso; simp_all; done)
      · (repeat' ((conv => whnf); first | refine CondVC.t ?_ | refine CondVC.f ?_ | refine CondVC.dec (fun h => ?_) (fun h => ?_) | refine CondVC.ndec (fun h => ?_) (fun h => ?_) | refine CondVC.mk (fun h => ?_) (fun h => ?_) | refine ArVC.i64 (by first | omega | (simp only; omega)) ?_ | refine SideVC.mk (by first | omega | decide | (simp only; omega) | (simp [slS]; done) | (simp [slS]; omega) | (simp only [byteE_len, mvE_len, strE_len, intE_len, esC_len, List.length_cons, List.length_nil, List.length_append, List.length_replicate, List.length_set, Int.toNat_natCast, and_true] at *; omega)) ?_ | refine LoopN.go ?_ | exact trivial | refine AltVC.mk ?_ ?_ | refine HeldVC.mk rfl ?_ | refine LoadVC.mk _ g1 ?_ | refine SideVC.mk (by rw [hk0]; omega) ?_ | refine OpVC.more tt_ok ?_ | refine RestVC.ext tt_ok ?_)); all_goals (conv => whnf)
        all_goals first
          | (exfalso; omega)
          | (exfalso; simp_all; done)
          | exact ⟨k + 1, ⟨by omega, fun j hj h => by
              by_cases e : j = k
              · subst e; exact he
              · exact hno j hj (by omega)⟩, by omega, Sub.mk [] _ ⟨rfl, rfl, rfl, rfl, rfl, trivial⟩ rfl rfl⟩
    have hnot : w ∉ x0.1 := fun hm => by
      obtain ⟨j, hj, e⟩ := List.getElem_of_mem hm
      exact hno j hj (by omega) e
    have hfinal := fun x' h1 h2 => hfinal x' h1 h2 hnot
    by_cases hwg : w = g
    · have hf1 := hself hwg
      subst hf1
      (repeat' ((conv => whnf); first | refine CondVC.t ?_ | refine CondVC.f ?_ | refine CondVC.dec (fun h => ?_) (fun h => ?_) | refine CondVC.ndec (fun h => ?_) (fun h => ?_) | refine CondVC.mk (fun h => ?_) (fun h => ?_) | refine ArVC.i64 (by first | omega | (simp only; omega)) ?_ | refine SideVC.mk (by first | omega | decide | (simp only; omega) | (simp [slS]; done) | (simp [slS]; omega) | (simp only [byteE_len, mvE_len, strE_len, intE_len, esC_len, List.length_cons, List.length_nil, List.length_append, List.length_replicate, List.length_set, Int.toNat_natCast, and_true] at *; omega)) ?_ | refine LoopN.go ?_ | exact trivial | refine AltVC.mk ?_ ?_ | refine HeldVC.mk rfl ?_ | refine CallVC.pure hlast rfl ?_ | refine SideVC.mk (by simp only [strE_len, intE_len, List.length_cons, List.length_nil] at *; omega) ?_ | refine OpVC.more tt_ok ?_ | refine RestVC.ext tt_ok ?_)); all_goals (conv => whnf)
      all_goals first
        | (exfalso; omega)
        | (exfalso; simp_all; done)
        | exact RetVC.ren [(1011, 57), (1012, 67)] [i64 1] _ rfl rfl rfl (hfinal x0 hx0 (AddE.refl _ _))
    have hend := he hwg
    (repeat' ((conv => whnf); first | refine CondVC.t ?_ | refine CondVC.f ?_ | refine CondVC.dec (fun h => ?_) (fun h => ?_) | refine CondVC.ndec (fun h => ?_) (fun h => ?_) | refine CondVC.mk (fun h => ?_) (fun h => ?_) | refine ArVC.i64 (by first | omega | (simp only; omega)) ?_ | refine SideVC.mk (by first | omega | decide | (simp only; omega) | (simp [slS]; done) | (simp [slS]; omega) | (simp only [byteE_len, mvE_len, strE_len, intE_len, esC_len, List.length_cons, List.length_nil, List.length_append, List.length_replicate, List.length_set, Int.toNat_natCast, and_true] at *; omega)) ?_ | refine LoopN.go ?_ | exact trivial | refine AltVC.mk ?_ ?_ | refine HeldVC.mk rfl ?_ | refine CallVC.pure hlast rfl ?_ | refine CallVC.res [] rfl (Spec.ren [(1001, 2001)] [(2001, 1001)] h5 rfl rfl rfl) rfl ?_ | refine OpVC.more tt_ok ?_ | refine RestVC.ext tt_ok ?_)); all_goals (conv => whnf)
    · exfalso; omega
    · exfalso; simp_all; done
    refine LoopVC.mk (G := Nat × Wy) (fun g => ⟨[(38, .v (i64 g.1)), (37, .v (i64 l.length)), (36, .v (.c (.sl 2001))), (7, .v (i64 (pt g.1))), (1, .v (.c (.str w))), (0, .v (.c (.ptr 1000 0)))],
        [(2001, .sl 66 2 (mvE l)), (1000, .box 48 [.sl 3001, .sl 3002]), (3001, .sl 9 1 (strE g.2.1)), (3002, .sl 3 1 (intE g.2.2))]⟩)
      (fun g => g.1 ≤ l.length ∧ okEn g.2 ∧ AddE x0 (wayF w) g.2) (fun g => l.length - g.1) (0, x0) ⟨by omega, hx0, AddE.refl _ _⟩ (Sub.mk [(3001, 1001), (3002, 1002)] _ ⟨rfl, by rw [hml]; rfl, rfl, by rw [hz]; rfl, rfl, rfl, trivial⟩ rfl rfl) ?_
    rintro ⟨j, x⟩ ⟨hj, hx, hax⟩
    simp only at hj hx hax
    have hfew := okEn_few hx
    have hkx := strE_len x.1
    have hbx := intE_len x.2
    by_cases hjl : j < l.length
    · have hmem := List.getElem_mem hjl
      have g2 : (mvE l)[(j : Int).toNat]? = some (mvC l[j]) := by rw [Int.toNat_natCast]; exact mvE_get hjl
      have h6 := hmk _ hmem
      obtain ⟨h8, h9⟩ := hW _ hmem
      have h8 := h8 x hx
      have h8 := Spec.renE [(1001, 3001), (1002, 3002), (1011, 3011), (1012, 3012)] [(3001, 1001), (3002, 1002), (3011, 1011), (3012, 1012)] h8 (fun _ => rfl) (fun _ => rfl) rfl
      have hsj := hs j hjl
      generalize madeF w l[j] = w' at *
      generalize wp g w' = q at *
      (repeat' ((conv => whnf); first | refine CondVC.t ?_ | refine CondVC.f ?_ | refine CondVC.dec (fun h => ?_) (fun h => ?_) | refine CondVC.ndec (fun h => ?_) (fun h => ?_) | refine CondVC.mk (fun h => ?_) (fun h => ?_) | refine ArVC.i64 (by first | omega | (simp only; omega)) ?_ | refine SideVC.mk (by first | omega | decide | (simp only; omega) | (simp [slS]; done) | (simp [slS]; omega) | (simp only [byteE_len, mvE_len, strE_len, intE_len, esC_len, List.length_cons, List.length_nil, List.length_append, List.length_replicate, List.length_set, Int.toNat_natCast, and_true] at *; omega)) ?_ | refine LoopN.go ?_ | exact trivial | refine AltVC.mk ?_ ?_ | refine HeldVC.mk rfl ?_ | refine LoadVC.mk _ g2 ?_ | refine SideVC.mk (by rw [hml]; omega) ?_ | refine CallVC.pure h6 rfl ?_ | (refine CallVC.ex [1000, 3001, 3002] rfl h8 ?_; intro x' hx'; refine ⟨rfl, ?_⟩) | refine ArVC.wrap ?_ | refine OpVC.more tt_ok ?_ | refine RestVC.ext tt_ok ?_)); all_goals (conv => whnf)
      all_goals first
        | (exfalso; omega)
        | exact ⟨(j + 1, x'), ⟨by omega, hx'.1, AddE.trans (by omega) hax hx'.2⟩, by simp only; omega, Sub.mk [(3001, 3011), (3002, 3012)] _ ⟨rfl, rfl, rfl, by rw [hsj]; rfl, rfl, rfl, trivial⟩ rfl rfl⟩
    · have hej := hend j (by omega)
      rw [hej]
      (repeat' ((conv => whnf); first | refine CondVC.t ?_ | refine CondVC.f ?_ | refine CondVC.dec (fun h => ?_) (fun h => ?_) | refine CondVC.ndec (fun h => ?_) (fun h => ?_) | refine CondVC.mk (fun h => ?_) (fun h => ?_) | refine ArVC.i64 (by first | omega | (simp only; omega)) ?_ | refine SideVC.mk (by first | omega | decide | (simp only; omega) | (simp [slS]; done) | (simp [slS]; omega) | (simp only [byteE_len, mvE_len, strE_len, intE_len, esC_len, List.length_cons, List.length_nil, List.length_append, List.length_replicate, List.length_set, Int.toNat_natCast, and_true] at *; omega)) ?_ | refine LoopN.go ?_ | exact trivial | refine AltVC.mk ?_ ?_ | refine HeldVC.mk rfl ?_ | refine SideVC.mk (by simp only [strE_len, intE_len, List.length_cons, List.length_nil] at *; omega) ?_ | refine OpVC.more tt_ok ?_ | refine RestVC.ext tt_ok ?_)); all_goals (conv => whnf)
      all_goals first
        | (exfalso; omega)
        | exact RetVC.ren [(1011, 57), (1012, 67)] [i64 wf] _ rfl rfl rfl (hfinal x hx hax)
theorem ends_all (w : Tx) (hwl : w.length ≤ 14) (hok : w.all okCh = true) : EndS w := ends_spec _ w (Nat.lt_succ_self _) hwl hok
end Go.Proofs.Ytblihaicbhdbdaa.X
