/- strconv.Atoi: its contract at every text; what it reads of the library's two error variables. No condition beyond the statement's. -/
import Derived.Test.YtaidpalamhmghaaDoorLib
import Derived.Test.YtaidpalamhmghaaDoorLays3
import Derived.Test.YtaidpalamhmghaaDoorCallE
namespace Go.Proofs.YtaidpalamhmghaaDoor.X
open Go.Shelf Go.RowKit Go.Proofs
set_option linter.unusedVariables false
set_option linter.unusedSimpArgs false

/-- The number that Atoi hands back. -/
def atoF (s : List UInt8) : Int := match Lib.atoiAll s with
  | .ok v => v
  | .«syntax» => 0
  | .range => Lib.atoiSat s

/-- An error variable holds nil or an error. -/
def errAt (w : World) (g : Nat) : Prop := ∃ ev, w.cell? ⟨g, 0, none⟩ = some ev ∧ (ev = .nilIface ∨ ∃ te pe, ev = .iface te pe)
theorem errAt.frame {w w' : World} {g : Nat} (hf : w'.heap[g]? = w.heap[g]?) (h : errAt w g) : errAt w' g := by
  obtain ⟨ev, h1, h2⟩ := h
  exact ⟨ev, by rw [← h1]; exact cell_frame (a := ⟨g, 0, none⟩) hf 0, h2⟩
theorem errAt.lt {w : World} {g : Nat} (h : errAt w g) : g < w.heap.size := by
  obtain ⟨ev, h1, _⟩ := h
  unfold World.cell? at h1
  cases ho : w.heap[g]? with
  | none => simp [ho] at h1
  | some o => exact (Array.getElem?_eq_some_iff.1 ho).1

/-- Such a block. -/
def errO (o : Obj) : Prop := ∀ (w : World) (g : Nat), w.heap[g]? = some o → errAt w g

/-- The library's two error variables, as they lie. -/
def errR (o1 o2 : Obj) : Res := .pr (fun _ w F => (∀ b, F b ↔ b = 1 ∨ b = 2) ∧ w.heap[1]? = some o1 ∧ w.heap[2]? = some o2)
  (fun a w w' F hf h => ⟨h.1, (hf 1 ((h.1 1).2 (.inl rfl))).trans h.2.1, (hf 2 ((h.1 2).2 (.inr rfl))).trans h.2.2⟩)
  (fun a w F b h hb => by
    rcases (h.1 b).1 hb with e | e
    · subst e; exact (Array.getElem?_eq_some_iff.1 h.2.1).1
    · subst e; exact (Array.getElem?_eq_some_iff.1 h.2.2).1)

theorem atoi_spec {o1 o2 : Obj} (q1 : errO o1) (q2 : errO o2) (s : List UInt8) (hs : s.length ≤ 1000000) : Spec Tryd.prog 56 [.c (.str s)] [(1000, errR o1 o2)] (exRes (fun _ : Value => True) (fun u => [.c (.int .i64 (atoF s)), .c (.val u)]) (fun _ => [(1000, errR o1 o2)])) := by
  refine ⟨⟨_, Tryd.func56, by kernel_rfl, rfl⟩, fun ρ w F hM => ?_⟩
  obtain ⟨F1, F2, hF, hd, hR, hn⟩ := hM
  have hR' : (∀ b, F1 b ↔ b = 1 ∨ b = 2) ∧ w.heap[1]? = some o1 ∧ w.heap[2]? = some o2 := hR
  obtain ⟨e1, c1, t1⟩ := q1 w 1 hR'.2.1
  obtain ⟨e2, c2, t2⟩ := q2 w 2 hR'.2.2
  have fin : ∀ (n : Int) (u : Value) (w' : World), Below w.heap.size w w' → n = atoF s → ∃ ρ' vs m F', exRes (fun _ : Value => True) (fun u => [.c (.int .i64 (atoF s)), .c (.val u)]) (fun _ => [(1000, errR o1 o2)]) vs m ∧ Ending.returned (.tuple #[.int .i64 n, u]) = .returned (pk ρ' vs) ∧
      MemSat ρ' m w' F' ∧ (∀ b, F' b → F b ∨ w.heap.size ≤ b) ∧ Frm F w w' ∧ ∀ r ∈ memNames [(1000, errR o1 o2)], ρ.agree ρ' r := fun n u w' hb hnn => by
    subst hnn
    have hM0 : MemSat ρ [(1000, errR o1 o2)] w F := ⟨F1, F2, hF, hd, hR, hn⟩
    have hM' : MemSat ρ [(1000, errR o1 o2)] w' F := hM0.frame fun b hb' => hb.block b (hM0.lt hb')
    exact ⟨ρ, _, _, F, ⟨u, trivial, rfl, rfl⟩, by simp [pk, V.den, C.den], hM', fun b hb => .inl hb, ⟨hb.os, hb.tape, hb.output, hb.size, fun b hb' _ => hb.block b hb'⟩, fun r _ => .refl ρ r⟩
  have earg : ([V.c (.str s)].map (V.den ρ)).toArray = #[.string ⟨s.toArray⟩] := rfl
  rw [earg]
  have hsz : (⟨s.toArray⟩ : ByteArray).size ≤ 1000000 := hs
  have hdl : (⟨s.toArray⟩ : ByteArray).data.toList = s := by simp
  cases ha : Lib.atoiAll s with
  | ok v =>
    refine (Tryd.strconv_Atoi_ok ⟨s.toArray⟩ (by omega) v (by rw [hdl]; exact ha) w).mono ?_
    rintro e w' ⟨rfl, hw⟩
    refine fin v _ w' ?_ (by unfold atoF; rw [ha])
    rcases hw with rfl | ⟨t, rfl⟩
    · exact Below.refl _ _
    · exact Lib.bytesWorld_below _ _ _
  | «syntax» =>
    refine (Tryd.strconv_Atoi_syntax ⟨s.toArray⟩ (by omega) (by rw [hdl]; exact ha) e1 w c1 t1).mono ?_
    rintro e w' ⟨N, rfl, _, _, hb⟩
    exact fin 0 _ w' hb (by unfold atoF; rw [ha])
  | range =>
    refine (Tryd.strconv_Atoi_range ⟨s.toArray⟩ (by omega) (by rw [hdl]; exact ha) e2 w c2 t2).mono ?_
    rintro e w' ⟨N, rfl, _, _, hb⟩
    refine fin _ _ w' hb ?_
    rw [hdl]; unfold atoF; rw [ha]
end Go.Proofs.YtaidpalamhmghaaDoor.X
