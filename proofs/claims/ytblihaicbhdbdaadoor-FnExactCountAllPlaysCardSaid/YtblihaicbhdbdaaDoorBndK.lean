/- How many plays a line of at most ten cells has: fewer than 2^63: the kernel's check of the table. No condition. -/
import Derived.Test.YtblihaicbhdbdaaDoorBnd
namespace Go.Proofs.YtblihaicbhdbdaaDoor.X
set_option linter.unusedVariables false
theorem chk_split (n : Nat) (l : List Sg) (nf nd p : Nat) (h1 : chkAll n (.d :: l) nf (nd + 1) (p + nf) = true) (h2 : chkAll n (.f :: l) (nf + 1) nd p = true) (h3 : chkAll n (.t :: l) nf nd (p + nf + nd) = true) : chkAll (n + 1) l nf nd p = true := by
  show (chkAll n (.d :: l) nf (nd + 1) (p + nf) && (chkAll n (.f :: l) (nf + 1) nd p && chkAll n (.t :: l) nf nd (p + nf + nd))) = true
  rw [h1, h2, h3]; rfl
theorem chk0 : chkAll 0 [] 0 0 0 = true := by decide +kernel
theorem chk1 : chkAll 1 [] 0 0 0 = true := by decide +kernel
theorem chk2 : chkAll 2 [] 0 0 0 = true := by decide +kernel
theorem chk3 : chkAll 3 [] 0 0 0 = true := by decide +kernel
theorem chk4 : chkAll 4 [] 0 0 0 = true := by decide +kernel
theorem chk5 : chkAll 5 [] 0 0 0 = true := by decide +kernel
theorem chk6 : chkAll 6 [] 0 0 0 = true := by decide +kernel
theorem chk7 : chkAll 7 [] 0 0 0 = true := by decide +kernel
theorem chk8d : chkAll 7 [.d] 0 1 0 = true := by decide +kernel
theorem chk8f : chkAll 7 [.f] 1 0 0 = true := by decide +kernel
theorem chk8t : chkAll 7 [.t] 0 0 0 = true := by decide +kernel
theorem chk8 : chkAll 8 [] 0 0 0 = true := chk_split 7 [] 0 0 0 chk8d chk8f chk8t
theorem chk9dd : chkAll 7 [.d, .d] 0 2 0 = true := by decide +kernel
theorem chk9df : chkAll 7 [.f, .d] 1 1 0 = true := by decide +kernel
theorem chk9dt : chkAll 7 [.t, .d] 0 1 1 = true := by decide +kernel
theorem chk9d : chkAll 8 [.d] 0 1 0 = true := chk_split 7 [.d] 0 1 0 chk9dd chk9df chk9dt
theorem chk9fd : chkAll 7 [.d, .f] 1 1 1 = true := by decide +kernel
theorem chk9ff : chkAll 7 [.f, .f] 2 0 0 = true := by decide +kernel
theorem chk9ft : chkAll 7 [.t, .f] 1 0 1 = true := by decide +kernel
theorem chk9f : chkAll 8 [.f] 1 0 0 = true := chk_split 7 [.f] 1 0 0 chk9fd chk9ff chk9ft
theorem chk9td : chkAll 7 [.d, .t] 0 1 0 = true := by decide +kernel
theorem chk9tf : chkAll 7 [.f, .t] 1 0 0 = true := by decide +kernel
theorem chk9tt : chkAll 7 [.t, .t] 0 0 0 = true := by decide +kernel
theorem chk9t : chkAll 8 [.t] 0 0 0 = true := chk_split 7 [.t] 0 0 0 chk9td chk9tf chk9tt
theorem chk9 : chkAll 9 [] 0 0 0 = true := chk_split 8 [] 0 0 0 chk9d chk9f chk9t
theorem chk10ddd : chkAll 7 [.d, .d, .d] 0 3 0 = true := by decide +kernel
theorem chk10ddf : chkAll 7 [.f, .d, .d] 1 2 0 = true := by decide +kernel
theorem chk10ddt : chkAll 7 [.t, .d, .d] 0 2 2 = true := by decide +kernel
theorem chk10dd : chkAll 8 [.d, .d] 0 2 0 = true := chk_split 7 [.d, .d] 0 2 0 chk10ddd chk10ddf chk10ddt
theorem chk10dfd : chkAll 7 [.d, .f, .d] 1 2 1 = true := by decide +kernel
theorem chk10dff : chkAll 7 [.f, .f, .d] 2 1 0 = true := by decide +kernel
theorem chk10dft : chkAll 7 [.t, .f, .d] 1 1 2 = true := by decide +kernel
theorem chk10df : chkAll 8 [.f, .d] 1 1 0 = true := chk_split 7 [.f, .d] 1 1 0 chk10dfd chk10dff chk10dft
theorem chk10dtd : chkAll 7 [.d, .t, .d] 0 2 1 = true := by decide +kernel
theorem chk10dtf : chkAll 7 [.f, .t, .d] 1 1 1 = true := by decide +kernel
theorem chk10dtt : chkAll 7 [.t, .t, .d] 0 1 2 = true := by decide +kernel
theorem chk10dt : chkAll 8 [.t, .d] 0 1 1 = true := chk_split 7 [.t, .d] 0 1 1 chk10dtd chk10dtf chk10dtt
theorem chk10d : chkAll 9 [.d] 0 1 0 = true := chk_split 8 [.d] 0 1 0 chk10dd chk10df chk10dt
theorem chk10fdd : chkAll 7 [.d, .d, .f] 1 2 2 = true := by decide +kernel
theorem chk10fdf : chkAll 7 [.f, .d, .f] 2 1 1 = true := by decide +kernel
theorem chk10fdt : chkAll 7 [.t, .d, .f] 1 1 3 = true := by decide +kernel
theorem chk10fd : chkAll 8 [.d, .f] 1 1 1 = true := chk_split 7 [.d, .f] 1 1 1 chk10fdd chk10fdf chk10fdt
theorem chk10ffd : chkAll 7 [.d, .f, .f] 2 1 2 = true := by decide +kernel
theorem chk10fff : chkAll 7 [.f, .f, .f] 3 0 0 = true := by decide +kernel
theorem chk10fft : chkAll 7 [.t, .f, .f] 2 0 2 = true := by decide +kernel
theorem chk10ff : chkAll 8 [.f, .f] 2 0 0 = true := chk_split 7 [.f, .f] 2 0 0 chk10ffd chk10fff chk10fft
theorem chk10ftd : chkAll 7 [.d, .t, .f] 1 1 2 = true := by decide +kernel
theorem chk10ftf : chkAll 7 [.f, .t, .f] 2 0 1 = true := by decide +kernel
theorem chk10ftt : chkAll 7 [.t, .t, .f] 1 0 2 = true := by decide +kernel
theorem chk10ft : chkAll 8 [.t, .f] 1 0 1 = true := chk_split 7 [.t, .f] 1 0 1 chk10ftd chk10ftf chk10ftt
theorem chk10f : chkAll 9 [.f] 1 0 0 = true := chk_split 8 [.f] 1 0 0 chk10fd chk10ff chk10ft
theorem chk10tdd : chkAll 7 [.d, .d, .t] 0 2 0 = true := by decide +kernel
theorem chk10tdf : chkAll 7 [.f, .d, .t] 1 1 0 = true := by decide +kernel
theorem chk10tdt : chkAll 7 [.t, .d, .t] 0 1 1 = true := by decide +kernel
theorem chk10td : chkAll 8 [.d, .t] 0 1 0 = true := chk_split 7 [.d, .t] 0 1 0 chk10tdd chk10tdf chk10tdt
theorem chk10tfd : chkAll 7 [.d, .f, .t] 1 1 1 = true := by decide +kernel
theorem chk10tff : chkAll 7 [.f, .f, .t] 2 0 0 = true := by decide +kernel
theorem chk10tft : chkAll 7 [.t, .f, .t] 1 0 1 = true := by decide +kernel
theorem chk10tf : chkAll 8 [.f, .t] 1 0 0 = true := chk_split 7 [.f, .t] 1 0 0 chk10tfd chk10tff chk10tft
theorem chk10ttd : chkAll 7 [.d, .t, .t] 0 1 0 = true := by decide +kernel
theorem chk10ttf : chkAll 7 [.f, .t, .t] 1 0 0 = true := by decide +kernel
theorem chk10ttt : chkAll 7 [.t, .t, .t] 0 0 0 = true := by decide +kernel
theorem chk10tt : chkAll 8 [.t, .t] 0 0 0 = true := chk_split 7 [.t, .t] 0 0 0 chk10ttd chk10ttf chk10ttt
theorem chk10t : chkAll 9 [.t] 0 0 0 = true := chk_split 8 [.t] 0 0 0 chk10td chk10tf chk10tt
theorem chk10 : chkAll 10 [] 0 0 0 = true := chk_split 9 [] 0 0 0 chk10d chk10f chk10t
theorem chk_all : ∀ n, n ≤ 10 → chkAll n [] 0 0 0 = true
  | 0, _ => chk0
  | 1, _ => chk1
  | 2, _ => chk2
  | 3, _ => chk3
  | 4, _ => chk4
  | 5, _ => chk5
  | 6, _ => chk6
  | 7, _ => chk7
  | 8, _ => chk8
  | 9, _ => chk9
  | 10, _ => chk10
  | n + 11, h => absurd h (by omega)
theorem few_plays (N : Tx → Nat) (hN : ∀ w : Tx, N w ≤ 1 ∨ N w ≤ ((movesF w both).map fun m => N (madeF w m)).sum) {w : Tx} (hok : w.all okCh = true) (hw : w.length ≤ 10) : N w < 9223372036854775808 := by
  obtain ⟨l, rfl⟩ := sgs_of hok
  rw [sgs_len] at hw
  exact Nat.lt_of_le_of_lt (bounded l.length (chk_all _ hw) N hN _ l rfl rfl) (bT_lt _ _)
theorem playsF_few10 (g : Tx) {w : Tx} (hok : w.all okCh = true) (hw : w.length ≤ 10) : playsF g w < 9223372036854775808 := by
  refine few_plays (playsF g) (fun w => ?_) hok hw
  rw [playsF_eq]
  split
  · exact .inl (Nat.le_refl _)
  · exact .inr (Nat.le_refl _)
end Go.Proofs.YtblihaicbhdbdaaDoor.X
