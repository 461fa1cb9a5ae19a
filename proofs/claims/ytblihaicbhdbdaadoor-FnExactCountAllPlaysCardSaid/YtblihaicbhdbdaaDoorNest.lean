/- Rows of rows. No condition. -/
import Derived.Test.YtblihaicbhdbdaaDoorCut
import Derived.Test.YtblihaicbhdbdaaDoorCallE
namespace Go.Proofs.YtblihaicbhdbdaaDoor.X
open Go.RowKit
set_option linter.unusedVariables false
set_option linter.unusedSimpArgs false

/-! ### Cells mapped -/
def V.mapC (g : C → C) : V → V
  | .c x => .c (g x)
  | .agg l => .agg (l.map g)
def E.mapC (g : C → C) : E → E
  | .v x => .v (x.mapC g)
  | .tup l => .tup (l.map (V.mapC g))
  | .und => .und
def envMap (g : C → C) : Env → Env
  | [] => []
  | (d, e) :: r => (d, e.mapC g) :: envMap g r
def V.allC (p : C → Prop) : V → Prop
  | .c x => p x
  | .agg l => ∀ c ∈ l, p c
theorem V.den_mapC {ρ ρ' : Nm} {g : C → C} {v : V} (h : ∀ c : C, (∀ r ∈ c.names, r ∈ v.names) → (g c).den ρ' = c.den ρ) : (v.mapC g).den ρ' = v.den ρ := by
  cases v with
  | c x => exact h x fun r hr => hr
  | agg l =>
    simp only [V.mapC, V.den, List.map_map]
    congr 2
    exact List.map_congr_left fun c hc => h c fun r hr => List.mem_flatMap.2 ⟨c, hc, hr⟩
theorem E.den_mapC {ρ ρ' : Nm} {g : C → C} {e : E} (h : ∀ c : C, (∀ r ∈ c.names, r ∈ e.names) → (g c).den ρ' = c.den ρ) : (e.mapC g).den ρ' = e.den ρ := by
  cases e with
  | v x => exact V.den_mapC h
  | tup l =>
    simp only [E.mapC, E.den, List.map_map]
    congr 2
    exact List.map_congr_left fun v hv => V.den_mapC fun c hc => h c fun r hr => List.mem_flatMap.2 ⟨v, hv, hc r hr⟩
  | und => rfl
theorem look_envMap (g : C → C) : ∀ (env : Env) (d : Nat), look (envMap g env) d = (look env d).map (E.mapC g)
  | [], d => rfl
  | (k, e) :: r, d => by
    simp only [envMap, look]
    cases Nat.beq k d with
    | true => rfl
    | false => exact look_envMap g r d
theorem SatA.mapC {N : Nat} {ρ ρ' : Nm} {env : Env} {a : Act} {g : C → C} (h : SatA N ρ env a) (hg : ∀ p ∈ env, ∀ c : C, (∀ r ∈ c.names, r ∈ p.2.names) → (g c).den ρ' = c.den ρ) : SatA N ρ' (envMap g env) a :=
  ⟨h.dfr, h.size, fun d e he => by
    rw [look_envMap] at he
    obtain ⟨e', h1, rfl⟩ := Option.map_eq_some_iff.1 he
    rw [h.env d e' h1]
    exact (E.den_mapC (hg (d, e') (look_mem h1))).symm⟩

/-- A row taken into row d as its inner row i. -/
def C.toIns (q d i : Nat) : C → C
  | .sl r => match Nat.beq r q with
    | true => .ins d i
    | false => .sl r
  | c => c
/-- The first inner row of q is the inner row k of d now. -/
def C.mvIns (q d k : Nat) : C → C
  | .ins p i => match Nat.beq p q, Nat.beq i 0 with
    | true, true => .ins d k
    | _, _ => .ins p i
  | c => c

def Nm.updV (ρ : Nm) (d : Nat) (b : Option Addr) (n c : Nat) (v : Nat → Option Addr × Nat × Nat) : Nm where
  adr := ρ.adr
  rb r := if r = d then b else ρ.rb r
  rn r := if r = d then n else ρ.rn r
  rc r := if r = d then c else ρ.rc r
  rv r := if r = d then v else ρ.rv r
theorem Nm.updV_agree (ρ : Nm) {d : Nat} {b : Option Addr} {n c : Nat} {v : Nat → Option Addr × Nat × Nat} {r : Nat} (h : r ≠ d) : ρ.agree (ρ.updV d b n c v) r := by
  simp [Nm.agree, Nm.updV, h]

theorem C.den_ne {ρ ρ' : Nm} {d : Nat} (hag : ∀ r, r ≠ d → ρ.agree ρ' r) {c : C} (h : d ∉ c.names) : c.den ρ' = c.den ρ :=
  (c.den_congr fun r hr => hag r fun e => h (e ▸ hr)).symm

/-! ### Resources turned into another one -/
theorem SatW.convF {x : Cx} {ρ ρ' : Nm} {mem rest : Mem} {w w' : World} (hW : SatW x ρ mem w) {F F1 F2 : Nat → Prop} (hF0 : ∀ b, F b → x.F0 b ∨ x.w0.heap.size ≤ b) (h1 : ∀ b, F b ↔ F1 b ∨ F2 b) (h2 : ∀ b, F1 b → F2 b → False) (h4 : MemSat ρ rest w F2)
    (hos : w'.os = w.os) (htp : w'.tape = w.tape) (hout : w'.output = w.output) (hsz : w.heap.size ≤ w'.heap.size)
    {d : Nat} {R : Res} (hag : ∀ r, r ≠ d → ρ.agree ρ' r) (hd : d ∉ x.D0) (hrest : ∀ p ∈ rest, p.1 ≠ d ∧ d ∉ p.2.names)
    (hR : ∃ F', R.holds ρ' d w' F' ∧ (∀ b, F' b → F1 b ∨ w.heap.size ≤ b) ∧ (∀ b, b < w.heap.size → ¬ F1 b → w'.heap[b]? = w.heap[b]?)) : SatW x ρ' ((d, R) :: rest) w' := by
  obtain ⟨F', g1, g2, g3⟩ := hR
  refine ⟨⟨_, MemSat.cons (F := F2) (fun b k1 k2 => ?_) g1 ?_, fun b hb => ?_⟩, hos.trans hW.os, htp.trans hW.tape, hout.trans hW.output, Nat.le_trans hW.size hsz, fun b k1 k2 => ?_, fun r hr => (hW.agr r hr).trans (hag r fun e => hd (e ▸ hr))⟩
  · rcases g2 b k1 with h | h
    · exact h2 b h k2
    · have := h4.lt k2; omega
  · exact (h4.frame fun b hb => g3 b (h4.lt hb) fun k => h2 b k hb).congr fun p hp => ⟨hag _ (hrest p hp).1, fun r hr => hag r fun e => (hrest p hp).2 (e ▸ hr)⟩
  · rcases hb with hb | hb
    · rcases g2 b hb with h | h
      · exact hF0 b ((h1 b).2 (.inl h))
      · exact .inr (Nat.le_trans hW.size h)
    · exact hF0 b ((h1 b).2 (.inr hb))
  · rw [g3 b (by have := hW.size; omega) fun k => ?_]
    · exact hW.keep b k1 k2
    · rcases hF0 b ((h1 b).2 (.inl k)) with k | k
      · exact k2 k
      · omega
theorem SatW.conv {x : Cx} {ρ ρ' : Nm} {mem m1 rest : Mem} {w w' : World} (hW : SatW x ρ mem w) (hp : mem.Perm (m1 ++ rest)) (hos : w'.os = w.os) (htp : w'.tape = w.tape) (hout : w'.output = w.output) (hsz : w.heap.size ≤ w'.heap.size)
    {d : Nat} {R : Res} (hag : ∀ r, r ≠ d → ρ.agree ρ' r) (hd : d ∉ x.D0) (hrest : ∀ p ∈ rest, p.1 ≠ d ∧ d ∉ p.2.names)
    (hR : ∀ F, MemSat ρ m1 w F → ∃ F', R.holds ρ' d w' F' ∧ (∀ b, F' b → F b ∨ w.heap.size ≤ b) ∧ (∀ b, b < w.heap.size → ¬ F b → w'.heap[b]? = w.heap[b]?)) : SatW x ρ' ((d, R) :: rest) w' := by
  obtain ⟨F, hF, hF0⟩ := hW.mem
  obtain ⟨F1, F2, h1, h2, h3, h4⟩ := MemSat.append.1 (hF.perm hp)
  exact hW.convF hF0 h1 h2 h4 hos htp hout hsz hag hd hrest (hR F1 h3)

/-! ### Inner rows -/
theorem NestIn.shift {ρ : Nm} {f g : Nat → Option Addr × Nat × Nat} {T : TypeId} {sz : Nat} {w : World} : ∀ {ess : List (List (List C))} {i j : Nat} {F : Nat → Prop}, (∀ k, k < ess.length → g (j + k) = f (i + k)) → NestIn ρ f T sz [] i ess w F → NestIn ρ g T sz [] j ess w F
  | [], _, _, _, _, h => h
  | es :: rest, i, j, F, hfg, h => by
    obtain ⟨F1, F2, h1, h2, h3, h4⟩ := h
    refine ⟨F1, F2, h1, h2, ?_, NestIn.shift (i := i + 1) (fun k hk => ?_) h4⟩
    · have := hfg 0 (by simp)
      simp only [Nat.add_zero] at this
      unfold InnerAt at h3 ⊢
      simp only [holeAt] at h3 ⊢
      rw [this]; exact h3
    · have := hfg (k + 1) (by simp; omega)
      rw [show j + 1 + k = j + (k + 1) by omega, show i + 1 + k = i + (k + 1) by omega]; exact this
theorem NestIn.app {ρ : Nm} {f : Nat → Option Addr × Nat × Nat} {T : TypeId} {sz : Nat} {w : World} {b : List (List (List C))} {Fb : Nat → Prop} : ∀ {a : List (List (List C))} {i : Nat} {Fa : Nat → Prop}, NestIn ρ f T sz [] i a w Fa → NestIn ρ f T sz [] (i + a.length) b w Fb → (∀ x, Fa x → Fb x → False) →
    NestIn ρ f T sz [] i (a ++ b) w (fun x => Fa x ∨ Fb x)
  | [], i, Fa, ha, hb, _ => by
    have : (fun x => Fa x ∨ Fb x) = Fb := funext fun x => propext ⟨fun h => h.elim (fun h => (ha x h).elim) id, .inr⟩
    rw [this]; exact hb
  | es :: rest, i, Fa, ha, hb, hd => by
    obtain ⟨F1, F2, h1, h2, h3, h4⟩ := ha
    refine ⟨F1, fun x => F2 x ∨ Fb x, fun x => ?_, fun x k1 k2 => ?_, h3, NestIn.app h4 (by rw [show i + 1 + rest.length = i + (es :: rest).length by simp; omega]; exact hb) fun x k1 k2 => hd x ((h1 x).2 (.inr k1)) k2⟩
    · show Fa x ∨ Fb x ↔ F1 x ∨ F2 x ∨ Fb x
      rw [h1 x, or_assoc]
    · rcases k2 with k2 | k2
      · exact h2 x k1 k2
      · exact hd x ((h1 x).2 (.inl k1)) k2
theorem NestIn.get {ρ : Nm} {f : Nat → Option Addr × Nat × Nat} {T : TypeId} {sz : Nat} {hs : List (Nat × Nat)} {w : World} {es : List (List C)} : ∀ {ess : List (List (List C))} {i j : Nat} {F : Nat → Prop}, NestIn ρ f T sz hs i ess w F → ess[j]? = some es → ∃ F1, InnerAt ρ f T sz (holeAt hs (i + j)) (i + j) es w F1 ∧ ∀ b, F1 b → F b
  | [], _, _, _, _, h => by simp at h
  | e0 :: rest, i, 0, F, h, hj => by
    obtain ⟨F1, F2, h1, h2, h3, h4⟩ := h
    simp only [List.getElem?_cons_zero, Option.some.injEq] at hj
    subst hj
    exact ⟨F1, h3, fun b hb => (h1 b).2 (.inl hb)⟩
  | e0 :: rest, i, j + 1, F, h, hj => by
    obtain ⟨F1, F2, h1, h2, h3, h4⟩ := h
    obtain ⟨F', g1, g2⟩ := NestIn.get h4 (by simpa using hj)
    rw [show i + 1 + j = i + (j + 1) by omega] at g1
    exact ⟨F', g1, fun b hb => (h1 b).2 (.inr (g2 b hb))⟩
/-- An inner row taken out under a name. -/
theorem NestIn.out {ρ : Nm} {f : Nat → Option Addr × Nat × Nat} {T : TypeId} {sz z : Nat} {hs : List (Nat × Nat)} {w : World} {es : List (List C)} : ∀ {ess : List (List (List C))} {i j : Nat} {F : Nat → Prop}, NestIn ρ f T sz hs i ess w F → ess[j]? = some es → holeAt hs (i + j) = none → f (i + j) = (ρ.rb z, ρ.rn z, ρ.rc z) →
    ∃ F1 F2, (∀ b, F b ↔ F1 b ∨ F2 b) ∧ (∀ b, F1 b → F2 b → False) ∧ ((f (i + j)).2.1 = es.length ∧ slAt ρ (hdr (f (i + j))) T sz es w F1) ∧ NestIn ρ f T sz ((i + j, z) :: hs) i ess w F2
  | [], _, _, _, _, h, _, _ => by simp at h
  | e0 :: rest, i, 0, F, h, hj, hh, hf => by
    obtain ⟨F1, F2, h1, h2, h3, h4⟩ := h
    simp only [List.getElem?_cons_zero, Option.some.injEq] at hj
    subst hj
    simp only [Nat.add_zero] at hh hf ⊢
    rw [hh] at h3
    refine ⟨F1, F2, h1, h2, h3, fun _ => False, F2, fun b => by simp, fun b h => h.elim, ?_, ?_⟩
    · simp only [holeAt, if_true]; exact ⟨fun b h => h, hf⟩
    · have key : ∀ {l : List (List (List C))} {k : Nat} {F : Nat → Prop}, i < k → NestIn ρ f T sz hs k l w F → NestIn ρ f T sz ((i, z) :: hs) k l w F := by
        intro l
        induction l with
        | nil => intro k F _ h; exact h
        | cons e l ih =>
          intro k F hk h
          obtain ⟨G1, G2, g1, g2, g3, g4⟩ := h
          refine ⟨G1, G2, g1, g2, ?_, ih (by omega) g4⟩
          simp only [holeAt, if_neg (show ¬ i = k by omega)]; exact g3
      exact key (by omega) h4
  | e0 :: rest, i, j + 1, F, h, hj, hh, hf => by
    obtain ⟨F1, F2, h1, h2, h3, h4⟩ := h
    rw [show i + (j + 1) = i + 1 + j by omega] at hh hf ⊢
    obtain ⟨G1, G2, g1, g2, g3, g4⟩ := NestIn.out h4 (by simpa using hj) hh hf
    refine ⟨G1, fun b => F1 b ∨ G2 b, fun b => ?_, fun b k1 k2 => ?_, g3, F1, G2, fun b => Iff.rfl, fun b k1 k2 => h2 b k1 ((g1 b).2 (.inr k2)), ?_, g4⟩
    · rw [h1 b, g1 b]; constructor
      · rintro (h | h | h)
        · exact .inr (.inl h)
        · exact .inl h
        · exact .inr (.inr h)
      · rintro (h | h | h)
        · exact .inr (.inl h)
        · exact .inl h
        · exact .inr (.inr h)
    · rcases k2 with k2 | k2
      · exact h2 b k2 ((g1 b).2 (.inl k1))
      · exact g2 b k1 k2
    · simp only [holeAt, if_neg (show ¬ i + 1 + j = i by omega)]; exact h3
/-- It is put back. -/
theorem NestIn.back {ρ : Nm} {f : Nat → Option Addr × Nat × Nat} {T : TypeId} {sz z : Nat} {hs : List (Nat × Nat)} {w : World} {es : List (List C)} {Fz : Nat → Prop} : ∀ {ess : List (List (List C))} {i j : Nat} {F : Nat → Prop}, NestIn ρ f T sz ((i + j, z) :: hs) i ess w F → j < ess.length → holeAt hs (i + j) = none → ρ.rn z = es.length → slAt ρ (hdr (ρ.rb z, ρ.rn z, ρ.rc z)) T sz es w Fz → (∀ b, Fz b → F b → False) →
    NestIn ρ f T sz hs i (ess.set j es) w (fun b => Fz b ∨ F b)
  | [], _, _, _, _, h, _, _, _, _ => by simp at h
  | e0 :: rest, i, 0, F, h, hj, hh, hn, hsl, hd => by
    obtain ⟨F1, F2, h1, h2, h3, h4⟩ := h
    simp only [Nat.add_zero] at hh h3 h4 ⊢
    simp only [holeAt, if_true] at h3
    obtain ⟨k1, k2⟩ := h3
    have hF : ∀ b, F b ↔ F2 b := fun b => by rw [h1 b]; constructor
                                             · rintro (h | h)
                                               · exact (k1 b h).elim
                                               · exact h
                                             · exact .inr
    refine ⟨Fz, F2, fun b => (by show Fz b ∨ F b ↔ Fz b ∨ F2 b; rw [hF b]), fun b a1 a2 => hd b a1 ((hF b).2 a2), ?_, ?_⟩
    · rw [hh]; exact ⟨by rw [k2]; exact hn, by rw [k2]; exact hsl⟩
    · have key : ∀ {l : List (List (List C))} {k : Nat} {F : Nat → Prop}, i < k → NestIn ρ f T sz ((i, z) :: hs) k l w F → NestIn ρ f T sz hs k l w F := by
        intro l
        induction l with
        | nil => intro k F _ h; exact h
        | cons e l ih =>
          intro k F hk h
          obtain ⟨G1, G2, g1, g2, g3, g4⟩ := h
          refine ⟨G1, G2, g1, g2, ?_, ih (by omega) g4⟩
          simp only [holeAt, if_neg (show ¬ i = k by omega)] at g3; exact g3
      exact key (by omega) h4
  | e0 :: rest, i, j + 1, F, h, hj, hh, hn, hsl, hd => by
    obtain ⟨F1, F2, h1, h2, h3, h4⟩ := h
    rw [show i + (j + 1) = i + 1 + j by omega] at hh h3 h4
    have h5 := NestIn.back h4 (by simpa using hj) hh hn hsl fun b a1 a2 => hd b a1 ((h1 b).2 (.inr a2))
    refine ⟨F1, fun b => Fz b ∨ F2 b, fun b => ?_, fun b a1 a2 => ?_, ?_, h5⟩
    · show Fz b ∨ F b ↔ F1 b ∨ Fz b ∨ F2 b
      rw [h1 b]; constructor
      · rintro (h | h | h)
        · exact .inr (.inl h)
        · exact .inl h
        · exact .inr (.inr h)
      · rintro (h | h | h)
        · exact .inr (.inl h)
        · exact .inl h
        · exact .inr (.inr h)
    · rcases a2 with a2 | a2
      · exact hd b a2 ((h1 b).2 (.inl a1))
      · exact h2 b a1 a2
    · simp only [holeAt, if_neg (show ¬ i + 1 + j = i by omega)] at h3; exact h3

/-! ### An inner row handed over -/
def C.unins (z r i : Nat) : C → C
  | .sl q => match Nat.beq q z with
    | true => .ins r i
    | false => .sl q
  | c => c
/-- The row that was taken out is put back. -/
structure BackVC (z r i : Nat) (hs : List (Nat × Nat)) (K : Mem → Prop) (m : Mem) : Prop where
  make ::
  out : ∃ T1 T2 sz ess es rest, m.Perm ((z, .sl T2 sz es) :: (r, .ext (.nest T1 T2 sz ess ((i, z) :: hs))) :: rest) ∧ i < ess.length ∧ holeAt hs i = none ∧ hasN (hs.map (·.2)) z = false ∧ K ((r, .ext (.nest T1 T2 sz (ess.set i es) hs)) :: rest)
theorem BackVC.mk {z r i : Nat} {hs : List (Nat × Nat)} {K : Mem → Prop} {m rest1 rest : Mem} {T1 T2 : TypeId} {sz : Nat} {ess : List (List (List C))} {es : List (List C)} (h1 : takeN m z = some (.sl T2 sz es, rest1)) (h2 : takeN rest1 r = some (.ext (.nest T1 T2 sz ess ((i, z) :: hs)), rest))
    (hi : i < ess.length) (hh : holeAt hs i = none) (hz : hasN (hs.map (·.2)) z = false) (h : K ((r, .ext (.nest T1 T2 sz (ess.set i es) hs)) :: rest)) : BackVC z r i hs K m :=
  ⟨⟨T1, T2, sz, ess, es, rest, (takeN_perm h1).trans ((takeN_perm h2).cons _), hi, hh, hz, h⟩⟩
/-- The same, the row being as it was. -/
theorem BackVC.same {z r i : Nat} {hs : List (Nat × Nat)} {K : Mem → Prop} {m rest1 rest : Mem} {T1 T2 : TypeId} {sz : Nat} {ess : List (List (List C))} {es : List (List C)} (h1 : takeN m z = some (.sl T2 sz es, rest1)) (h2 : takeN rest1 r = some (.ext (.nest T1 T2 sz ess ((i, z) :: hs)), rest))
    (hi : ess[i]? = some es) (hh : holeAt hs i = none) (hz : hasN (hs.map (·.2)) z = false) (h : K ((r, .ext (.nest T1 T2 sz ess hs)) :: rest)) : BackVC z r i hs K m := by
  obtain ⟨hl, he⟩ := List.getElem?_eq_some_iff.1 hi
  refine BackVC.mk h1 h2 hl hh hz ?_
  have : ess.set i es = ess := by rw [← he]; exact List.set_getElem_self hl
  rw [this]; exact h

theorem SatW.takeOut {x : Cx} {ρ : Nm} {z r i : Nat} {mem rest : Mem} {w : World} {T1 T2 : TypeId} {sz : Nat} {ess : List (List (List C))} {es : List (List C)} {hs : List (Nat × Nat)} (hW : SatW x ρ mem w) (hp : mem.Perm ((r, .ext (.nest T1 T2 sz ess hs)) :: rest)) (hi : ess[i]? = some es) (hh : holeAt hs i = none)
    (hzr : r ≠ z) (hzh : z ∉ hs.map (·.2)) (hd : z ∉ x.D0) (hrest : ∀ p ∈ rest, p.1 ≠ z ∧ z ∉ p.2.names) :
    SatW x (ρ.upd z (ρ.adr z) (ρ.rv r i).1 (ρ.rv r i).2.1 (ρ.rv r i).2.2) ((z, .sl T2 sz es) :: (r, .ext (.nest T1 T2 sz ess ((i, z) :: hs))) :: rest) w := by
  let ρ' := ρ.upd z (ρ.adr z) (ρ.rv r i).1 (ρ.rv r i).2.1 (ρ.rv r i).2.2
  have hag : ∀ q, q ≠ z → ρ.agree ρ' q := fun q h => ρ.upd_agree h
  have hr := hag r hzr
  have hfz : ρ'.rv r i = (ρ'.rb z, ρ'.rn z, ρ'.rc z) := by simp [ρ', Nm.upd]
  obtain ⟨F, hF, hF0⟩ := hW.mem
  obtain ⟨F1, F2, h1, h2, ⟨a0, G0, G1, a1, a2, a3, a4⟩, h4⟩ := hF.perm hp
  have a4' : NestIn ρ' (ρ'.rv r) T2 sz hs 0 ess w G1 := by
    have := a4.congr (ρ' := ρ') fun q hq => hag q fun e => hzh (e ▸ hq)
    rw [hr.2.2.2.2] at this
    exact this
  obtain ⟨K1, K2, b1, b2, ⟨b3, b3'⟩, b4⟩ := NestIn.out (z := z) a4' (j := i) hi (by simpa using hh) (by simpa using hfz)
  simp only [Nat.zero_add] at b3 b3' b4
  have e1 : C.den ρ' (.sl r) = C.den ρ (.sl r) := C.den_ne hag (by simp [C.names]; exact fun h => hzr h.symm)
  have e2 : hdr (ρ'.rv r i) = C.den ρ' (.sl z) := by rw [hfz]; rfl
  refine ⟨⟨F, ⟨K1, fun b => (G0 b ∨ K2 b) ∨ F2 b, fun b => ?_, fun b k1 k2 => ?_, ⟨b3'.1, by rw [hfz] at b3; exact b3, ?_⟩, fun b => G0 b ∨ K2 b, F2, fun b => Iff.rfl, fun b k1 k2 => ?_, ⟨by rw [← hr.2.2.1]; exact a0, G0, K2, fun b => Iff.rfl, fun b k1 k2 => a2 b k1 ((b1 b).2 (.inr k2)), by rw [e1, ← hr.2.2.2.2, ← hr.2.2.2.1]; exact a3, b4⟩, h4.congr fun p hp => ⟨hag _ (hrest p hp).1, fun d hd => hag d fun e => (hrest p hp).2 (e ▸ hd)⟩⟩, hF0⟩, hW.os, hW.tape, hW.output, hW.size, hW.keep, fun q hq => (hW.agr q hq).trans (hag q fun e => hd (e ▸ hq))⟩
  · rw [h1 b, a1 b, b1 b]
    constructor
    · rintro ((h | h | h) | h)
      · exact .inr (.inl (.inl h))
      · exact .inl h
      · exact .inr (.inl (.inr h))
      · exact .inr (.inr h)
    · rintro (h | (h | h) | h)
      · exact .inl (.inr (.inl h))
      · exact .inl (.inl h)
      · exact .inl (.inr (.inr h))
      · exact .inr h
  · rcases k2 with (k2 | k2) | k2
    · exact a2 b k2 ((b1 b).2 (.inl k1))
    · exact b2 b k1 k2
    · exact h2 b ((a1 b).2 (.inr ((b1 b).2 (.inl k1)))) k2
  · rcases b3'.2 with ⟨c1, c2⟩ | ⟨c1, c2, c3⟩
    · rw [e2] at c1 c2; exact .inl ⟨c1, c2⟩
    · rw [e2] at c3
      obtain ⟨b, c3⟩ := c3
      simp only [C.den, Value.slice.injEq] at c3
      exact .inr ⟨c1, c2, c3.2.2⟩
  · rcases k1 with k1 | k1
    · exact h2 b ((a1 b).2 (.inl k1)) k2
    · exact h2 b ((a1 b).2 (.inr ((b1 b).2 (.inr k1)))) k2

theorem SatW.putBack {x : Cx} {ρ : Nm} {z r i : Nat} {mem rest : Mem} {w : World} {T1 T2 : TypeId} {sz : Nat} {ess : List (List (List C))} {es : List (List C)} {hs : List (Nat × Nat)} (hW : SatW x ρ mem w) (hp : mem.Perm ((z, .sl T2 sz es) :: (r, .ext (.nest T1 T2 sz ess ((i, z) :: hs))) :: rest)) (hi : i < ess.length) (hh : holeAt hs i = none) :
    SatW x ρ ((r, .ext (.nest T1 T2 sz (ess.set i es) hs)) :: rest) w := by
  obtain ⟨F, hF, hF0⟩ := hW.mem
  obtain ⟨Fz, F', h1, h2, ⟨z1, z2, z3⟩, F1, F2, g1, g2, ⟨a0, G0, G1, a1, a2, a3, a4⟩, h4⟩ := hF.perm hp
  have hsl : slAt ρ (hdr (ρ.rb z, ρ.rn z, ρ.rc z)) T2 sz es w Fz := by
    refine ⟨z1, ?_⟩
    rcases z3 with z3 | ⟨c1, c2, c3⟩
    · exact .inl z3
    · exact .inr ⟨c1, c2, ρ.rb z, by simp [hdr, z2, c2, c3]⟩
  have h5 := NestIn.back (i := 0) (j := i) (by simpa using a4) hi (by simpa using hh) z2 hsl fun b k1 k2 => h2 b k1 ((g1 b).2 (.inl ((a1 b).2 (.inr k2))))
  refine ⟨⟨F, ⟨fun b => Fz b ∨ F1 b, F2, fun b => ?_, fun b k1 k2 => ?_, ⟨by rw [List.length_set]; exact a0, G0, fun b => Fz b ∨ G1 b, fun b => ?_, fun b k1 k2 => ?_, ?_, h5⟩, h4⟩, hF0⟩, hW.os, hW.tape, hW.output, hW.size, hW.keep, hW.agr⟩
  · rw [h1 b, g1 b, or_assoc]
  · rcases k1 with k1 | k1
    · exact h2 b k1 ((g1 b).2 (.inr k2))
    · exact g2 b k1 k2
  · show Fz b ∨ F1 b ↔ G0 b ∨ Fz b ∨ G1 b
    rw [a1 b]; constructor
    · rintro (h | h | h)
      · exact .inr (.inl h)
      · exact .inl h
      · exact .inr (.inr h)
    · rintro (h | h | h)
      · exact .inr (.inl h)
      · exact .inl h
      · exact .inr (.inr h)
  · rcases k2 with k2 | k2
    · exact h2 b k2 ((g1 b).2 (.inl ((a1 b).2 (.inl k1))))
    · exact a2 b k1 k2
  · rw [List.length_set]
    refine a3.imp id ?_
    rintro ⟨c1, c2, c3⟩
    subst c2
    exact absurd hi (Nat.not_lt_zero _)

theorem C.den_unins {ρ : Nm} {z r i : Nat} {c : C} (h : z ∉ (c.unins z r i).names) : (c.unins z r i).den ρ = c.den (ρ.upd z (ρ.adr z) (ρ.rv r i).1 (ρ.rv r i).2.1 (ρ.rv r i).2.2) := by
  have hag : ∀ q, q ≠ z → ρ.agree (ρ.upd z (ρ.adr z) (ρ.rv r i).1 (ρ.rv r i).2.1 (ρ.rv r i).2.2) q := fun q h => ρ.upd_agree h
  cases c with
  | sl q =>
    simp only [C.unins] at h ⊢
    cases hb : Nat.beq q z with
    | true =>
      have := Nat.eq_of_beq_eq_true hb
      subst this
      simp [C.den, Nm.upd, hdr]
    | false =>
      rw [hb] at h
      exact (C.den_ne hag h).symm
  | _ => exact (C.den_ne hag h).symm
theorem V.den_unins {ρ : Nm} {z r i : Nat} {v : V} (h : z ∉ (v.mapC (C.unins z r i)).names) : (v.mapC (C.unins z r i)).den ρ = v.den (ρ.upd z (ρ.adr z) (ρ.rv r i).1 (ρ.rv r i).2.1 (ρ.rv r i).2.2) := by
  cases v with
  | c x => exact C.den_unins h
  | agg l =>
    simp only [V.mapC, V.den, List.map_map]
    congr 2
    refine List.map_congr_left fun c hc => ?_
    exact C.den_unins fun hz => h (by simp only [V.mapC, V.names, List.mem_flatMap, List.mem_map]; exact ⟨_, ⟨c, hc, rfl⟩, hz⟩)

theorem CallVC.inner {P : Program} {D0 : List Nat} {f : FuncId} {args : List V} {env : Env} {mem rest : Mem} {K : List V → Mem → Prop} {T1 T2 : TypeId} {sz : Nat} {ess : List (List (List C))} {es : List (List C)} {hs : List (Nat × Nat)} (z r i : Nat) (args' : List V)
    (hv : args = args'.map (V.mapC (C.unins z r i))) (hm : takeN mem r = some (.ext (.nest T1 T2 sz ess hs), rest)) (hi : ess[i]? = some es) (hh : holeAt hs i = none) (hfr : freshN D0 ((0, .tup args) :: env) ((r, .ext (.nest T1 T2 sz ess hs)) :: rest) z = true)
    (h : CallVC P D0 f args' env ((z, .sl T2 sz es) :: (r, .ext (.nest T1 T2 sz ess ((i, z) :: hs))) :: rest) (fun vs m => BackVC z r i hs (K vs) m)) : CallVC P D0 f args env mem K := by
  constructor
  refine ⟨h.out.1, fun x ρ w R hx hW hk => ?_⟩
  have hfr' := freshN_spec hfr
  subst hv
  have hr0 := hfr'.2.2 (r, .ext (.nest T1 T2 sz ess hs)) (by simp)
  have hW' := hW.takeOut (z := z) (takeN_perm hm) hi hh hr0.1 hr0.2 (hx ▸ hfr'.1) fun p hp => hfr'.2.2 p (List.mem_cons_of_mem _ hp)
  have hag : ∀ q, q ≠ z → ρ.agree (ρ.upd z (ρ.adr z) (ρ.rv r i).1 (ρ.rv r i).2.1 (ρ.rv r i).2.2) q := fun q h => ρ.upd_agree h
  have := h.out.2 x _ w R hx hW' fun vs m ρ' w' hK hag' hW'' => by
    obtain ⟨T1', T2', sz', ess', es', rest', hp', hi', hh', _, hK'⟩ := hK.out
    exact hk vs _ ρ' w' hK' (fun p hp q hq => (hag q fun e => hfr'.2.1 p (List.mem_cons_of_mem _ hp) (e ▸ hq)).trans (hag' p hp q hq)) (hW''.putBack hp' hi' hh')
  have e : (args'.map (V.mapC (C.unins z r i))).map (V.den ρ) = args'.map (V.den (ρ.upd z (ρ.adr z) (ρ.rv r i).1 (ρ.rv r i).2.1 (ρ.rv r i).2.2)) := by
    rw [List.map_map]
    refine List.map_congr_left fun v hv => ?_
    exact V.den_unins fun hz => hfr'.2.1 (0, .tup (args'.map (V.mapC (C.unins z r i)))) (by simp) (by simp only [E.names, List.mem_flatMap, List.mem_map]; exact ⟨_, ⟨v, hv, rfl⟩, hz⟩)
  rw [e]
  exact this

/-! ### An empty row as a row of rows -/
theorem Res.toNest {ρ : Nm} {r : Nat} {w : World} {F : Nat → Prop} {T : TypeId} (T2 : TypeId) (sz : Nat) (h : Res.holds ρ r w F (.sl T 1 [])) : Res.holds ρ r w F (.ext (.nest T T2 sz [] [])) := by
  obtain ⟨h1, h2, h3⟩ := h
  refine ⟨h2, F, fun _ => False, fun b => by simp, fun b _ h => h, ?_, fun b h => h⟩
  rcases h3 with h3 | ⟨a, _, c⟩
  · exact .inl h3
  · exact .inr ⟨a, rfl, c⟩
theorem SatW.toNest {x : Cx} {ρ : Nm} {r : Nat} {mem rest : Mem} {w : World} {T : TypeId} (T2 : TypeId) (sz : Nat) (hW : SatW x ρ mem w) (hp : mem.Perm ((r, .sl T 1 []) :: rest)) : SatW x ρ ((r, .ext (.nest T T2 sz [] [])) :: rest) w :=
  hW.write hp rfl rfl rfl (Nat.le_refl _) fun F h => ⟨F, Res.toNest T2 sz h, fun b h => h, fun b _ _ => rfl⟩
theorem Sub.toNest {D0 : List Nat} {s : St} {rest : Mem} {T : TypeId} (z : Nat) (T2 : TypeId) (sz : Nat) (hm : takeN s.mem z = some (.sl T 1 [], rest)) : Sub D0 s ⟨s.env, (z, .ext (.nest T T2 sz [] [])) :: rest⟩ :=
  fun N x ρ a w hx hA hW => ⟨ρ, hA, hW.toNest T2 sz (takeN_perm hm)⟩
theorem RetVC.toNest {D0 : List Nat} {vals : List V} {mem rest : Mem} {post : List V → Mem → Prop} {T : TypeId} (z : Nat) (T2 : TypeId) (sz : Nat) (hm : takeN mem z = some (.sl T 1 [], rest)) (h : RetVC D0 vals ((z, .ext (.nest T T2 sz [] [])) :: rest) post) : RetVC D0 vals mem post := by
  obtain ⟨⟨vs, m, hp, hs⟩⟩ := h
  exact ⟨⟨vs, m, hp, fun x ρ w hx hW => hs x ρ w hx (hW.toNest T2 sz (takeN_perm hm))⟩⟩
theorem CallVC.toNest {P : Program} {D0 : List Nat} {f : FuncId} {args : List V} {env : Env} {mem rest : Mem} {K : List V → Mem → Prop} {T : TypeId} (z : Nat) (T2 : TypeId) (sz : Nat) (hm : takeN mem z = some (.sl T 1 [], rest)) (h : CallVC P D0 f args env ((z, .ext (.nest T T2 sz [] [])) :: rest) K) : CallVC P D0 f args env mem K :=
  ⟨⟨h.out.1, fun x ρ w R hx hW hk => h.out.2 x ρ w R hx (hW.toNest T2 sz (takeN_perm hm)) hk⟩⟩
end Go.Proofs.YtblihaicbhdbdaaDoor.X
