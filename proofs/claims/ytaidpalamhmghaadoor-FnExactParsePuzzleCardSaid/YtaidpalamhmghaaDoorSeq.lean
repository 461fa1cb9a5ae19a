/- strings.SplitSeq: its contract; its iterator as the calculus takes it. No condition beyond each statement's. -/
import Derived.Test.YtaidpalamhmghaaDoorIter
namespace Go.Proofs.YtaidpalamhmghaaDoor.X
open Go.Shelf Go.RowKit Go.Proofs
set_option linter.unusedVariables false
set_option linter.unusedSimpArgs false
set_option maxRecDepth 100000

theorem split_iterOk (s : Tx) (c : UInt8) (hs : s.length ≤ 1000000) (r1 r2 r3 : Nat) :
    IterOk Tryd.prog 144 [r1, r2, r3] [(r1, .box 9 [.str [c]]), (r2, .box 9 [.str s]), (r3, .box 3 [.int .i64 0])] ((spl c s).map fun x => .c (.str x)) := by
  constructor
  intro ρ l n W F J hM hJ hY h0
  obtain ⟨F1, G1, hF1, d1, ⟨k1, hb1⟩, G2, G3, hG1, d2, ⟨k2, hb2⟩, F3, G4, hG3, d3, ⟨k3, hb3⟩, hn⟩ := hM
  have hF : ∀ b, F b ↔ b = ρ.adr r1 ∨ b = ρ.adr r2 ∨ b = ρ.adr r3 := fun b => by
    rw [hF1, hG1, hG3, k1, k2, k3]
    have := hn b
    constructor
    · rintro (h | h | h | h)
      · exact .inl h
      · exact .inr (.inl h)
      · exact .inr (.inr h)
      · exact absurd h this
    · rintro (h | h | h)
      · exact .inl h
      · exact .inr (.inl h)
      · exact .inr (.inr (.inl h))
  have h12 : ρ.adr r1 ≠ ρ.adr r2 := fun e => d1 _ ((k1 _).2 rfl) ((hG1 _).2 (.inl ((k2 _).2 e)))
  have h13 : ρ.adr r1 ≠ ρ.adr r3 := fun e => d1 _ ((k1 _).2 rfl) ((hG1 _).2 (.inr ((hG3 _).2 (.inl ((k3 _).2 e)))))
  have h23 : ρ.adr r2 ≠ ρ.adr r3 := fun e => d2 _ ((k2 _).2 rfl) ((hG3 _).2 (.inl ((k3 _).2 e)))
  have h := split_iter ⟨s.toArray⟩ (by show s.length ≤ _; exact hs) c l n (ρ.adr r1) (ρ.adr r2) (ρ.adr r3) h12 h13 h23 J
    (fun i w v h => hJ i w _ h (KeepsWalks.setCell w ⟨ρ.adr r2, 0, none⟩ v).size (fun b hb hn => Below.heap_setCell w ⟨ρ.adr r2, 0, none⟩ v b fun e => hn ((hF b).2 (.inr (.inl e)))) rfl rfl rfl)
    (fun i x w m hx hj => by
      have h1 : ((spl c s).map fun x => V.c (.str x))[i]? = some (.c (.str x)) := by
        rw [List.getElem?_map, show (spl c s)[i]? = some x from hx]; rfl
      obtain ⟨fn, tmps, assign, body, hy, hR⟩ := hY i _ w m h1 hj
      exact ⟨fn, tmps, assign, body, hy, hR.mono fun e w' ⟨q1, q2, q3⟩ => ⟨q1, q2, fun b hb => q3 b ((hF b).2 hb)⟩⟩)
    W ⟨#[c]⟩ rfl hb1 hb2 hb3 h0
  refine CallsIn.mono h fun e w' ⟨q1, q2⟩ => ⟨q1, ?_⟩
  rw [List.length_map]
  exact q2

/-- What SplitSeq hands back: the iterator and its boxes. -/
def seqMem (s : Tx) (c : UInt8) (r1 r2 r3 : Nat) : Mem := [(r1, .box 9 [.str [c]]), (r2, .box 9 [.str s]), (r3, .box 3 [.int .i64 0])]

theorem splitSeq0_spec (s : Tx) (c : UInt8) : Spec Tryd.prog 107 [.c (.str s), .c (.str [c]), i64 0] [] (isRes [.c (.fn 144 [1001, 1002, 1003])] (seqMem s c 1001 1002 1003)) := by
  refine Spec.of_wpx tt_ok Tryd.func107 (by kernel_rfl) rfl ?_
  (repeat' ((conv => whnf); first | refine CondVC.t ?_ | refine CondVC.f ?_ | refine CondVC.dec (fun h => ?_) (fun h => ?_) | refine CondVC.ndec (fun h => ?_) (fun h => ?_) | refine CondVC.mk (fun h => ?_) (fun h => ?_) | refine ArVC.i64 (by first | omega | (simp only; omega)) ?_ | refine SideVC.mk (by first | omega | decide | (simp only; omega) | (simp [slS]; done) | (simp [slS]; omega) | (simp only [byteE_len, mvE_len, strE_len, intE_len, esC_len, List.length_cons, List.length_nil, List.length_append, List.length_replicate, List.length_set, Int.toNat_natCast, and_true] at *; omega)) ?_ | refine LoopN.go ?_ | exact trivial | refine AltVC.mk ?_ ?_ | refine HeldVC.mk rfl ?_ | exact RetVC.ren [(1001, 4), (1002, 3), (1003, 5)] _ _ rfl rfl rfl ⟨rfl, rfl⟩ | refine OpVC.more tt_ok ?_ | refine RestVC.ext tt_ok ?_)); all_goals (conv => whnf)

theorem splitSeq_spec (s : Tx) (c : UInt8) : Spec Tryd.prog 57 [.c (.str s), .c (.str [c])] [] (isRes [.c (.fn 144 [1001, 1002, 1003])] (seqMem s c 1001 1002 1003)) := by
  have h := splitSeq0_spec s c
  refine Spec.of_wpx tt_ok Tryd.func57 (by kernel_rfl) rfl ?_
  (repeat' ((conv => whnf); first | refine CondVC.t ?_ | refine CondVC.f ?_ | refine CondVC.dec (fun h => ?_) (fun h => ?_) | refine CondVC.ndec (fun h => ?_) (fun h => ?_) | refine CondVC.mk (fun h => ?_) (fun h => ?_) | refine ArVC.i64 (by first | omega | (simp only; omega)) ?_ | refine SideVC.mk (by first | omega | decide | (simp only; omega) | (simp [slS]; done) | (simp [slS]; omega) | (simp only [byteE_len, mvE_len, strE_len, intE_len, esC_len, List.length_cons, List.length_nil, List.length_append, List.length_replicate, List.length_set, Int.toNat_natCast, and_true] at *; omega)) ?_ | refine LoopN.go ?_ | exact trivial | refine AltVC.mk ?_ ?_ | refine HeldVC.mk rfl ?_ | refine CallVC.res [] rfl h rfl ?_ | exact RetVC.res rfl rfl | refine OpVC.more tt_ok ?_ | refine RestVC.ext tt_ok ?_)); all_goals (conv => whnf)

/-! ### A range over such an iterator, in a walk -/
structure MSubVC (D : List Nat) (m m' : Mem) : Prop where
  make ::
  out : MSub D m m'
theorem MSubVC.mk {D : List Nat} {m m' : Mem} (σ : List (Nat × Nat)) (rest : Mem) (hmem : pickL m (memNames (renM σ m')) = some (renM σ m', rest)) (hD : (D.all fun r => (look σ r).isNone) = true) : MSubVC D m m' := ⟨MSub.mk σ rest hmem hD⟩

/-- What a round ends in. -/
def rndK (D : List Nat) (m' : Mem) : Exit → St → Prop
  | .normal, s => MSubVC D s.mem m'
  | _, _ => False

theorem split_ok : FnOk Tryd.prog 144 := ⟨_, Tryd.func144, by kernel_rfl, rfl⟩

theorem RngVC.str {P : Program} {N : Nat} {D0 : List Nat} {g : Operand} {ps : Array Tmp} {ia ib : List Nat → WK} {s : St} {K : Exit → St → Prop} (words : List Tx) (gf : FuncId) (capn : List Nat) (IB rest : Mem) (M : Nat → Mem) (p : Tmp)
    (hg : ev s.env g = some (.v (.c (.fn gf capn)))) (hps : ps = #[p]) (hp : dstOk N (some p) = true) (hfn : FnOk P gf) (hm : pickL s.mem (memNames IB) = some (IB, rest)) (hit : IterOk P gf capn IB (words.map fun x => .c (.str x)))
    (h0 : MSubVC (envNames s.env ++ D0) rest (M 0))
    (hr : ∀ i w, words[i]? = some w → ia (envNames s.env ++ D0) ⟨(p, .v (.c (.str w))) :: s.env, M i⟩ (thenK (fun s1 => ib (envNames s.env ++ D0) s1 (rndK (envNames s.env ++ D0) (M (i + 1)))) (fun _ _ => False)))
    {mE : Mem} (hE : M words.length = mE) (hK : K .normal ⟨s.env, mE⟩) : RngVC P N D0 g ps ia ib s K := by
  subst hE
  constructor
  refine ⟨gf, capn, IB, rest, _, M, p, hg, hps, hp, hfn, pickL_perm hm, hit, fun x hx => ?_, h0.out, fun i x hx => ?_, by rw [List.length_map]; exact hK⟩
  · obtain ⟨w, _, rfl⟩ := List.mem_map.1 hx; rfl
  · rw [List.getElem?_map] at hx
    cases hw : words[i]? with
    | none => rw [hw] at hx; cases hx
    | some w =>
      rw [hw] at hx
      obtain rfl := Option.some.inj hx
      refine ⟨_, rndK (envNames s.env ++ D0) (M (i + 1)), hr i w hw, fun e s1 h => ?_, fun e s2 h => ?_⟩
      · cases e with
        | normal => exact ⟨rfl, h⟩
        | _ => exact h.elim
      · cases e with
        | normal => exact ⟨rfl, h.out⟩
        | _ => exact h.elim
end Go.Proofs.YtaidpalamhmghaaDoor.X
