/- Texts split at a sign: the library's Split and the reference's. No condition beyond each statement's. -/
import Derived.Test.YtaidpalamhmghaaDoorBoard
import Derived.Test.YtaidpalamhmghaaDoorWord
import Derived.Test.YtaidpalamhmghaaDoorCut
import Derived.Lib.IndexLaws
namespace Go.Proofs.YtaidpalamhmghaaDoor.X
open Go.Proofs
set_option maxRecDepth 100000
set_option linter.unusedVariables false
set_option linter.unusedSimpArgs false
def spl (b : UInt8) : Tx → List Tx
  | [] => [[]]
  | c :: r => if c = b then [] :: spl b r else match spl b r with
    | x :: xs => (c :: x) :: xs
    | [] => [[c]]
theorem spl_ne (b : UInt8) : ∀ s : Tx, spl b s ≠ []
  | [] => by simp [spl]
  | c :: r => by
    unfold spl
    split
    · simp
    · split <;> simp
theorem spl_none {b : UInt8} : ∀ {u : Tx}, b ∉ u → spl b u = [u]
  | [], _ => rfl
  | c :: r, h => by
    simp only [List.mem_cons, not_or] at h
    have := spl_none (u := r) h.2
    unfold spl
    rw [if_neg (Ne.symm h.1), this]
theorem spl_app {b : UInt8} {v : Tx} : ∀ {u : Tx}, b ∉ u → spl b (u ++ b :: v) = u :: spl b v
  | [], _ => by show spl b (b :: v) = _; simp [spl]
  | c :: r, h => by
    simp only [List.mem_cons, not_or] at h
    have := spl_app (v := v) (u := r) h.2
    show spl b (c :: (r ++ b :: v)) = _
    rw [spl, if_neg (Ne.symm h.1), this]
theorem spl_len (b : UInt8) : ∀ s : Tx, (spl b s).length = s.count b + 1
  | [] => rfl
  | c :: r => by
    have ih := spl_len b r
    unfold spl
    by_cases h : c = b
    · subst h; rw [if_pos rfl]; simp [ih]
    · rw [if_neg h]
      have : (c :: r).count b = r.count b := by simp [List.count_cons, h]
      rw [this, ← ih]
      split
      · rename_i x xs e; rw [e]; rfl
      · rename_i e; exact absurd e (spl_ne b r)
theorem cut_index {b : UInt8} {r : Tx} {m : Nat} (h : Lib.indexByte r b = m) : m < r.length ∧ r = r.take m ++ b :: r.drop (m + 1) ∧ b ∉ r.take m := by
  obtain ⟨h1, h2⟩ := Lib.indexByte_some h
  have hm : m < r.length := (List.getElem?_eq_some_iff.1 h1).1
  refine ⟨hm, ?_, fun hb => ?_⟩
  · have e : r[m] = b := (List.getElem?_eq_some_iff.1 h1).2
    conv => lhs; rw [← List.take_append_drop m r, List.drop_eq_getElem_cons hm, e]
  · obtain ⟨k, hk, e⟩ := List.getElem_of_mem hb
    rw [List.length_take] at hk
    rw [List.getElem_take] at e
    exact h2 k (by omega) (by rw [List.getElem?_eq_getElem (by omega), e])
theorem spl_index {b : UInt8} {r : Tx} (h : 1 ≤ r.count b) : ∃ m : Nat, Lib.indexByte r b = m ∧ m < r.length ∧ spl b r = r.take m :: spl b (r.drop (m + 1)) := by
  have hge := Lib.indexByte_ge r b
  by_cases hn : Lib.indexByte r b = -1
  · have := Lib.indexByte_none hn
    have hc : r.count b = 0 := List.count_eq_zero.2 fun hb => by
      obtain ⟨k, hk, e⟩ := List.getElem_of_mem hb
      exact this k (by rw [List.getElem?_eq_getElem hk, e])
    omega
  · obtain ⟨m, hm⟩ := Int.eq_ofNat_of_zero_le (show 0 ≤ Lib.indexByte r b by omega)
    obtain ⟨h1, h2, h3⟩ := cut_index hm
    exact ⟨m, hm, h1, by conv => { lhs; rw [h2] }; exact spl_app h3⟩
theorem spl_last {b : UInt8} {r : Tx} (h : r.count b = 0) : spl b r = [r] := spl_none (List.count_eq_zero.1 h)
theorem strE_get' {l : List Tx} {k : Nat} (h : k < l.length) : (strE l)[k]? = some [.str l[k]] := by simp [strE, h]
def partS (L : List Tx) (i : Nat) : List (List C) := (strE L).take i ++ List.replicate (L.length - i) [.str []]
theorem partS_len {L : List Tx} {i : Nat} (h : i ≤ L.length) : (partS L i).length = L.length := by simp [partS, strE]; omega
theorem partS_get {L : List Tx} {i : Nat} (h : i < L.length) : (partS L i)[i]? = some [.str []] := by
  unfold partS
  have hl : ((strE L).take i).length = i := by simp [strE]; omega
  rw [List.getElem?_append_right (by omega), hl, Nat.sub_self, show L.length - i = (L.length - (i + 1)) + 1 from by omega, List.replicate_succ]
  rfl
theorem partS_set {L : List Tx} {i : Nat} (h : i < L.length) : (partS L i).set i [.str L[i]] = partS L (i + 1) := by
  unfold partS
  have hl : ((strE L).take i).length = i := by simp [strE]; omega
  rw [List.set_append_right _ _ (by omega), hl, Nat.sub_self, show L.length - i = (L.length - (i + 1)) + 1 from by omega, List.replicate_succ, List.set_cons_zero, List.take_add_one, strE_get' h, List.append_assoc]
  rfl
theorem partS_end (L : List Tx) : partS L L.length = strE L := by
  unfold partS
  rw [List.take_of_length_le (by simp [strE]), Nat.sub_self]; simp
theorem partS_zero (L : List Tx) : partS L 0 = List.replicate L.length [.str []] := by simp [partS]
theorem RetVC.cutS {D0 : List Nat} {vals : List V} {mem rest : Mem} {post : List V → Mem → Prop} {T : TypeId} {es es' : List (List C)} (z r sz n : Nat) (vs : List V) (hv : vals = vs.map (V.uncut z r sz n))
    (hm : pickL mem [r] = some ([(r, .sl T sz es)], rest)) (hn : n ≤ es.length) (hfr : freshN D0 [(0, .tup vals)] rest z = true) (he : es.take n = es') (h : RetVC D0 vs ((z, .sl T sz es') :: rest) post) : RetVC D0 vals mem post :=
  RetVC.cut z r sz n vs hv hm hn hfr (he ▸ h)
theorem genSplit_spec (s : Tx) (b : UInt8) (hs : s.length ≤ 1000000) : Spec Tryd.prog 153 [.c (.str s), .c (.str [b]), i64 0, i64 (-1)] [] (isRes [.c (.sl 1001)] [(1001, .sl 9 1 (strE (spl b s)))]) := by
  have h1 := count_spec1 s b
  have hcl : s.count b ≤ s.length := List.count_le_length
  have hmin : (if ((s.length : Nat) : Int) + 1 < ((s.count b : Nat) : Int) + 1 then ((s.length : Nat) : Int) + 1 else ((s.count b : Nat) : Int) + 1) = ((s.count b : Nat) : Int) + 1 := by rw [if_neg (by omega)]
  have hN := spl_len b s
  refine Spec.of_wpx tt_ok Tryd.func153 (by kernel_rfl) rfl ?_
  (repeat' ((conv => whnf); first | refine CondVC.t ?_ | refine CondVC.f ?_ | refine CondVC.dec (fun h => ?_) (fun h => ?_) | refine CondVC.ndec (fun h => ?_) (fun h => ?_) | refine CondVC.mk (fun h => ?_) (fun h => ?_) | refine ArVC.i64 (by first | omega | (simp only; omega)) ?_ | refine SideVC.mk (by first | omega | decide | (simp only; omega) | (simp [slS]; done) | (simp [slS]; omega) | (simp only [byteE_len, mvE_len, strE_len, intE_len, esC_len, List.length_cons, List.length_nil, List.length_append, List.length_replicate, List.length_set, Int.toNat_natCast, and_true] at *; omega)) ?_ | refine LoopN.go ?_ | exact trivial | refine AltVC.mk ?_ ?_ | refine HeldVC.mk rfl ?_ | refine CallVC.pure h1 rfl ?_ | refine SideVC.mk (by simp only [hmin]; omega) ?_ | refine ArVC.i64 (by simp only [hmin]; omega) ?_ | refine OpVC.more tt_ok ?_ | refine RestVC.ext tt_ok ?_)); all_goals (conv => whnf)
  all_goals try (exfalso; omega)
  simp only [hmin]
  obtain ⟨L, hL⟩ : ∃ L, L = spl b s := ⟨_, rfl⟩
  rw [← hL] at hN ⊢
  refine LoopVC.mk (G := Nat × Tx) (fun γ => ⟨[(10, .v (i64 γ.1)), (9, .v (.c (.sl 31))), (3, .v (i64 ((L.length : Nat) - 1))), (2, .v (i64 0)), (1, .v (.c (.str [b]))), (0, .v (.c (.str γ.2)))], [(31, .sl 9 1 (partS L γ.1))]⟩)
    (fun γ => γ.1 + 1 ≤ L.length ∧ spl b γ.2 = L.drop γ.1 ∧ γ.2.length ≤ s.length) (fun γ => L.length - γ.1) (0, s) ⟨by simp only; omega, by rw [hL]; rfl, Nat.le_refl _⟩
    (Sub.mk [] _ ⟨rfl, rfl, congrArg (fun z => some (E.v (i64 z))) (by rw [hN]; omega), rfl, rfl, rfl, trivial⟩ (by rw [partS_zero, hN]; rfl) rfl) ?_
  rintro ⟨i, r⟩ ⟨hi, hr, hrl⟩
  simp only at hi hr hrl
  have hpl := partS_len (L := L) (i := i) (by omega)
  have hrc := spl_len b r
  rw [hr, List.length_drop] at hrc
  have gi : (partS L i)[(i : Int).toNat]? = some [.str []] := by rw [Int.toNat_natCast]; exact partS_get (by omega)
  by_cases hil : i + 1 < L.length
  · obtain ⟨m, hm, hml, hsp⟩ := spl_index (b := b) (r := r) (by omega)
    have hx := index_spec1 r b
    rw [hm] at hx
    rw [hr, List.drop_eq_getElem_cons (by omega)] at hsp
    obtain ⟨hs1, hs2⟩ := List.cons.inj hsp
    have hset := partS_set (L := L) (i := i) (by omega)
    rw [hs1] at hset
    (repeat' ((conv => whnf); first | refine CondVC.t ?_ | refine CondVC.f ?_ | refine CondVC.dec (fun h => ?_) (fun h => ?_) | refine CondVC.ndec (fun h => ?_) (fun h => ?_) | refine CondVC.mk (fun h => ?_) (fun h => ?_) | refine ArVC.i64 (by first | omega | (simp only; omega)) ?_ | refine SideVC.mk (by first | omega | decide | (simp only; omega) | (simp [slS]; done) | (simp [slS]; omega) | (simp only [byteE_len, mvE_len, strE_len, intE_len, esC_len, List.length_cons, List.length_nil, List.length_append, List.length_replicate, List.length_set, Int.toNat_natCast, and_true] at *; omega)) ?_ | refine LoopN.go ?_ | exact trivial | refine AltVC.mk ?_ ?_ | refine HeldVC.mk rfl ?_ | refine CallVC.pure hx rfl ?_ | refine LoadVC.mk _ gi ?_ | refine SideVC.mk (by simp only [List.length_cons, List.length_nil]; omega) ?_ | refine SideVC.mk (by rw [hpl]; omega) ?_ | refine ArVC.i64 (by simp only [List.length_cons, List.length_nil]; omega) ?_ | refine OpVC.more tt_ok ?_ | refine RestVC.ext tt_ok ?_)); all_goals (conv => whnf)
    all_goals try (exfalso; omega)
    have q0 : slS r (Int.toNat 0) ((m : Int) + 0).toNat = r.take m := by simp [slS]
    have q1 : slS r ((m : Int) + (([b].length : Nat) : Int)).toNat (((r.length : Nat) : Int)).toNat = r.drop (m + 1) := by
      rw [Int.toNat_natCast, show ((m : Int) + (([b].length : Nat) : Int)).toNat = m + 1 from by simp only [List.length_cons, List.length_nil]; omega]
      unfold slS
      rw [List.take_length]
    exact ⟨(i + 1, r.drop (m + 1)), ⟨by simp only; omega, hs2.symm, by simp only [List.length_drop]; omega⟩, by simp only; omega, Sub.mk [] _ ⟨rfl, rfl, rfl, rfl, rfl, congrArg (fun z => some (E.v (.c (.str z)))) q1, trivial⟩ (by simp only [← hset, ← q0]; rfl) rfl⟩
  · have ei : L.length = i + 1 := by omega
    have hsp := spl_last (b := b) (r := r) (by omega)
    rw [hr, List.drop_eq_getElem_cons (by omega)] at hsp
    obtain ⟨hs1, hs2⟩ := List.cons.inj hsp
    have hset := partS_set (L := L) (i := i) (by omega)
    rw [hs1, ← ei, partS_end] at hset
    have hsl := strE_len L
    have he : ((partS L i).set i [.str r]).take ((((i : Nat) : Int) + 1).toNat - Int.toNat 0) = strE L := by
      rw [hset, List.take_of_length_le (by rw [hsl]; simp; omega)]
    have hle : (((i : Nat) : Int) + 1).toNat - Int.toNat 0 ≤ ((partS L i).set i [.str r]).length := by rw [List.length_set, hpl]; simp; omega
    (repeat' ((conv => whnf); first | refine CondVC.t ?_ | refine CondVC.f ?_ | refine CondVC.dec (fun h => ?_) (fun h => ?_) | refine CondVC.ndec (fun h => ?_) (fun h => ?_) | refine CondVC.mk (fun h => ?_) (fun h => ?_) | refine ArVC.i64 (by first | omega | (simp only; omega)) ?_ | refine SideVC.mk (by first | omega | decide | (simp only; omega) | (simp [slS]; done) | (simp [slS]; omega) | (simp only [byteE_len, mvE_len, strE_len, intE_len, esC_len, List.length_cons, List.length_nil, List.length_append, List.length_replicate, List.length_set, Int.toNat_natCast, and_true] at *; omega)) ?_ | refine LoopN.go ?_ | exact trivial | refine AltVC.mk ?_ ?_ | refine HeldVC.mk rfl ?_ | refine LoadVC.mk _ gi ?_ | refine SideVC.mk (by simp only [List.length_set, hpl]; omega) ?_ | refine OpVC.more tt_ok ?_ | refine RestVC.ext tt_ok ?_)); all_goals (conv => whnf)
    all_goals first
      | (exfalso; omega)
      | exact RetVC.cutS 1001 31 1 ((((i : Nat) : Int) + 1).toNat - Int.toNat 0) [.c (.sl 1001)] rfl rfl hle rfl he (RetVC.mk rfl ⟨rfl, rfl⟩)
theorem split_spec (s : Tx) (b : UInt8) (hs : s.length ≤ 1000000) : Spec Tryd.prog 120 [.c (.str s), .c (.str [b])] [] (isRes [.c (.sl 1001)] [(1001, .sl 9 1 (strE (spl b s)))]) := by
  have h1 := Spec.ren [(1001, 2001)] [(2001, 1001)] (genSplit_spec s b hs) rfl rfl rfl
  refine Spec.of_wpx tt_ok Tryd.func120 (by kernel_rfl) rfl ?_
  (repeat' ((conv => whnf); first | refine CondVC.t ?_ | refine CondVC.f ?_ | refine CondVC.dec (fun h => ?_) (fun h => ?_) | refine CondVC.ndec (fun h => ?_) (fun h => ?_) | refine CondVC.mk (fun h => ?_) (fun h => ?_) | refine ArVC.i64 (by first | omega | (simp only; omega)) ?_ | refine SideVC.mk (by first | omega | decide | (simp only; omega) | (simp [slS]; done) | (simp [slS]; omega) | (simp only [byteE_len, mvE_len, strE_len, intE_len, esC_len, List.length_cons, List.length_nil, List.length_append, List.length_replicate, List.length_set, Int.toNat_natCast, and_true] at *; omega)) ?_ | refine LoopN.go ?_ | exact trivial | refine AltVC.mk ?_ ?_ | refine HeldVC.mk rfl ?_ | refine CallVC.res [] rfl h1 rfl ?_ | refine OpVC.more tt_ok ?_ | refine RestVC.ext tt_ok ?_)); all_goals (conv => whnf)
  all_goals exact RetVC.ren [(1001, 2001)] [.c (.sl 1001)] [(1001, .sl 9 1 (strE (spl b s)))] rfl rfl rfl ⟨rfl, rfl⟩

/-! ### The reference's -/
theorem drop_mid {s : Tx} {f i : Nat} (hf : f ≤ i) (hi : i < s.length) : s.drop f = slS s f i ++ s.getD i 0 :: s.drop (i + 1) := by
  unfold slS
  rw [List.getD_eq_getElem?_getD, List.getElem?_eq_getElem hi, Option.getD_some, ← List.drop_eq_getElem_cons hi]
  conv => lhs; rw [← List.take_append_drop i s]
  rw [List.drop_append_of_le_length (by simp; omega)]
theorem l1Split_spec (s : Tx) (b : UInt8) (hs : s.length ≤ 1000000) : Spec Tryd.prog 100 [.c (.str s), .c (.int .u8 (b.toNat : Nat))] [] (isRes [.c (.sl 1001)] [(1001, .sl 9 1 (strE (spl b s)))]) := by
  refine Spec.of_wpx tt_ok Tryd.func100 (by kernel_rfl) rfl ?_
  (repeat' ((conv => whnf); first | refine CondVC.t ?_ | refine CondVC.f ?_ | refine CondVC.dec (fun h => ?_) (fun h => ?_) | refine CondVC.ndec (fun h => ?_) (fun h => ?_) | refine CondVC.mk (fun h => ?_) (fun h => ?_) | refine ArVC.i64 (by first | omega | (simp only; omega)) ?_ | refine SideVC.mk (by first | omega | decide | (simp only; omega) | (simp [slS]; done) | (simp [slS]; omega) | (simp only [byteE_len, mvE_len, strE_len, intE_len, esC_len, List.length_cons, List.length_nil, List.length_append, List.length_replicate, List.length_set, Int.toNat_natCast, and_true] at *; omega)) ?_ | refine LoopN.go ?_ | exact trivial | refine AltVC.mk ?_ ?_ | refine HeldVC.mk rfl ?_ | refine OpVC.more tt_ok ?_ | refine RestVC.ext tt_ok ?_)); all_goals (conv => whnf)
  refine LoopVC.mk (G := Nat × Nat × List Tx) (fun γ => ⟨[(7, .v (i64 γ.1)), (6, .v (i64 γ.2.1)), (5, .v (.c (.sl 3001))), (1, .v (.c (.int .u8 (b.toNat : Nat)))), (0, .v (.c (.str s)))], [(3001, .sl 9 1 (strE γ.2.2))]⟩)
    (fun γ => γ.1 ≤ s.length ∧ γ.2.1 ≤ γ.1 ∧ b ∉ slS s γ.2.1 γ.1 ∧ spl b s = γ.2.2 ++ spl b (s.drop γ.2.1) ∧ γ.2.2.length ≤ γ.1) (fun γ => s.length - γ.1) (0, 0, []) ⟨Nat.zero_le _, Nat.le_refl _, by simp [slS], rfl, Nat.le_refl _⟩
    (Sub.nil 3001 9 1 ⟨rfl, rfl, rfl, rfl, rfl, trivial⟩ rfl rfl) ?_
  rintro ⟨i, f, o⟩ ⟨hi, hf, hb, he, ho⟩
  simp only at hi hf hb he ho
  have hol := strE_len o
  by_cases hil : i < s.length
  · have hmid := drop_mid hf hil
    by_cases hx : s.getD i 0 = b
    · rw [hx] at hmid
      rw [hmid, spl_app hb] at he
      have hrow : strE o ++ [[.str (slS s f i)]] = strE (o ++ [slS s f i]) := by rw [strE_append]; rfl
      (repeat' ((conv => whnf); first | refine CondVC.t ?_ | refine CondVC.f ?_ | refine CondVC.dec (fun h => ?_) (fun h => ?_) | refine CondVC.ndec (fun h => ?_) (fun h => ?_) | refine CondVC.mk (fun h => ?_) (fun h => ?_) | refine ArVC.i64 (by first | omega | (simp only; omega)) ?_ | refine SideVC.mk (by first | omega | decide | (simp only; omega) | (simp [slS]; done) | (simp [slS]; omega) | (simp only [byteE_len, mvE_len, strE_len, intE_len, esC_len, List.length_cons, List.length_nil, List.length_append, List.length_replicate, List.length_set, Int.toNat_natCast, and_true] at *; omega)) ?_ | refine LoopN.go ?_ | exact trivial | refine AltVC.mk ?_ ?_ | refine HeldVC.mk rfl ?_ | refine SideVC.mk (by simp only [hol, List.length_cons, List.length_nil]; omega) ?_ | refine OpVC.more tt_ok ?_ | refine RestVC.ext tt_ok ?_)); all_goals (conv => whnf)
      all_goals simp only [Int.toNat_natCast, u8_inj] at *
      all_goals first
        | (exfalso; omega)
        | contradiction
        | exact ⟨(i + 1, i + 1, o ++ [slS s f i]), ⟨by simp only; omega, Nat.le_refl _, by simp [slS], by simp only; rw [he]; simp, by simp; omega⟩, by simp only; omega, Sub.mk [(3001, 25)] _ ⟨rfl, rfl, rfl, rfl, rfl, trivial⟩ (by simp only [← hrow]; rfl) rfl⟩
    · have hb2 : b ∉ slS s f (i + 1) := by
        unfold slS at hb ⊢
        rw [List.take_succ_eq_append_getElem hil, List.drop_append_of_le_length (by simp; omega), List.mem_append]
        rw [List.getD_eq_getElem?_getD, List.getElem?_eq_getElem hil, Option.getD_some] at hx
        rintro (h | h)
        · exact hb h
        · rw [List.mem_singleton] at h; exact hx h.symm
      (repeat' ((conv => whnf); first | refine CondVC.t ?_ | refine CondVC.f ?_ | refine CondVC.dec (fun h => ?_) (fun h => ?_) | refine CondVC.ndec (fun h => ?_) (fun h => ?_) | refine CondVC.mk (fun h => ?_) (fun h => ?_) | refine ArVC.i64 (by first | omega | (simp only; omega)) ?_ | refine SideVC.mk (by first | omega | decide | (simp only; omega) | (simp [slS]; done) | (simp [slS]; omega) | (simp only [byteE_len, mvE_len, strE_len, intE_len, esC_len, List.length_cons, List.length_nil, List.length_append, List.length_replicate, List.length_set, Int.toNat_natCast, and_true] at *; omega)) ?_ | refine LoopN.go ?_ | exact trivial | refine AltVC.mk ?_ ?_ | refine HeldVC.mk rfl ?_ | refine OpVC.more tt_ok ?_ | refine RestVC.ext tt_ok ?_)); all_goals (conv => whnf)
      all_goals simp only [Int.toNat_natCast, u8_inj] at *
      all_goals first
        | (exfalso; omega)
        | contradiction
        | exact ⟨(i + 1, f, o), ⟨by simp only; omega, by simp only; omega, hb2, he, by simp only; omega⟩, by simp only; omega, Sub.mk [] _ ⟨rfl, rfl, rfl, rfl, rfl, trivial⟩ rfl rfl⟩
  · have ei : i = s.length := by omega
    subst ei
    have hd : slS s f s.length = s.drop f := by unfold slS; rw [List.take_length]
    rw [hd] at hb
    rw [spl_none hb] at he
    rw [he, ← hd]
    have hrow : strE (o ++ [slS s f s.length]) = strE o ++ [[.str (slS s f s.length)]] := by rw [strE_append]; rfl
    rw [hrow]
    (repeat' ((conv => whnf); first | refine CondVC.t ?_ | refine CondVC.f ?_ | refine CondVC.dec (fun h => ?_) (fun h => ?_) | refine CondVC.ndec (fun h => ?_) (fun h => ?_) | refine CondVC.mk (fun h => ?_) (fun h => ?_) | refine ArVC.i64 (by first | omega | (simp only; omega)) ?_ | refine SideVC.mk (by first | omega | decide | (simp only; omega) | (simp [slS]; done) | (simp [slS]; omega) | (simp only [byteE_len, mvE_len, strE_len, intE_len, esC_len, List.length_cons, List.length_nil, List.length_append, List.length_replicate, List.length_set, Int.toNat_natCast, and_true] at *; omega)) ?_ | refine LoopN.go ?_ | exact trivial | refine AltVC.mk ?_ ?_ | refine HeldVC.mk rfl ?_ | refine SideVC.mk (by simp only [hol, List.length_cons, List.length_nil]; omega) ?_ | refine OpVC.more tt_ok ?_ | refine RestVC.ext tt_ok ?_)); all_goals (conv => whnf)
    all_goals first
      | (exfalso; omega)
      | exact RetVC.ren [(1001, 33)] [.c (.sl 1001)] [(1001, .sl 9 1 (strE o ++ [[.str (slS s f s.length)]]))] rfl rfl rfl ⟨rfl, rfl⟩
end Go.Proofs.YtaidpalamhmghaaDoor.X
