/-
  DERIVED. GIVEN WITH THE SEED: THE CARDS: each row of YtmnpccdioifhoaaDoorRows.lean that lists a variable, with what it lists TIED to the program's text (the seventh form; the later family's looks); each row that meets fmt, with fmt's text TOLD by the authors' own Lean function (tested against real Go, not proved from fmt's source: count such statements apart). THE CARD IS WHAT COUNTS. Prove the row's statement (the work); the ties are given (YtmnpccdioifhoaaDoorTie.lean); close each card by the builder's one call (the guide's Derived/Test/ToyasCard.lean, 'card_holds'). Laid BY PROGRAM, IN A SANDBOX (cutbox-door.mjs). By AI agents, Wed Nov 11 2026. No macro, syntax, notation, axiom, sorry.
-/
import Derived.Test.YtmnpccdioifhoaaDoorRows
import GoSem.ClaimSeven
namespace Go.Proofs.YtmnpccdioifhoaaDoor
namespace Rows

/-- THE TIED CARD OF 'laws.FnExactOtherLine'. -/
def fnExactOtherLineCard : Claim7 := { stood := { row := fnExactOtherLineRow, standIns := [], harness := (true, "e44fed8d78c1ab1e9bdba0ad5e71e436b4ced7ed7840e2a5d214fa7cef7f177c"), looks := false }, kinds := [], alts := [], laidByText := true, laidKinds := [.data, .pinned], laidTests := true, laidLooks := .later }
def FnExactOtherLineCardSaid : Prop := Claim7.holds Tryd.pinned (.plain (OpenSpec.ofChange fnExactOtherLineSpec)) fnExactOtherLineCard

/-- THE TIED CARD OF 'laws.FnExactMirrorRing'. -/
def fnExactMirrorRingCard : Claim7 := { stood := { row := fnExactMirrorRingRow, standIns := [], harness := (true, "e44fed8d78c1ab1e9bdba0ad5e71e436b4ced7ed7840e2a5d214fa7cef7f177c"), looks := false }, kinds := [], alts := [], laidByText := true, laidKinds := [.data, .pinned], laidTests := true, laidLooks := .later }
def FnExactMirrorRingCardSaid : Prop := Claim7.holds Tryd.pinned (.plain (OpenSpec.ofChange fnExactMirrorRingSpec)) fnExactMirrorRingCard

/-- THE TIED CARD OF 'laws.FnExactOtherBoard'. -/
def fnExactOtherBoardCard : Claim7 := { stood := { row := fnExactOtherBoardRow, standIns := [], harness := (true, "e44fed8d78c1ab1e9bdba0ad5e71e436b4ced7ed7840e2a5d214fa7cef7f177c"), looks := false }, kinds := [], alts := [], laidByText := true, laidKinds := [.data, .pinned], laidTests := true, laidLooks := .later }
def FnExactOtherBoardCardSaid : Prop := Claim7.holds Tryd.pinned (.plain (OpenSpec.ofChange fnExactOtherBoardSpec)) fnExactOtherBoardCard

/-- THE TIED CARD OF 'laws.FnExactIsBlocked'. -/
def fnExactIsBlockedCard : Claim7 := { stood := { row := fnExactIsBlockedRow, standIns := [], harness := (true, "e44fed8d78c1ab1e9bdba0ad5e71e436b4ced7ed7840e2a5d214fa7cef7f177c"), looks := false }, kinds := [], alts := [], laidByText := true, laidKinds := [.data, .pinned], laidTests := true, laidLooks := .later }
def FnExactIsBlockedCardSaid : Prop := Claim7.holds Tryd.pinned (.plain (OpenSpec.ofChange fnExactIsBlockedSpec)) fnExactIsBlockedCard

/-- THE TIED CARD OF 'laws.FnExactMovesOf'. -/
def fnExactMovesOfCard : Claim7 := { stood := { row := fnExactMovesOfRow, standIns := [], harness := (true, "e44fed8d78c1ab1e9bdba0ad5e71e436b4ced7ed7840e2a5d214fa7cef7f177c"), looks := false }, kinds := [], alts := [], laidByText := true, laidKinds := [.data, .pinned], laidTests := true, laidLooks := .later }
def FnExactMovesOfCardSaid : Prop := Claim7.holds Tryd.pinned (.plain (OpenSpec.ofChange fnExactMovesOfSpec)) fnExactMovesOfCard

/-- THE TIED CARD OF 'laws.FnExactToadMoves'. -/
def fnExactToadMovesCard : Claim7 := { stood := { row := fnExactToadMovesRow, standIns := [], harness := (true, "e44fed8d78c1ab1e9bdba0ad5e71e436b4ced7ed7840e2a5d214fa7cef7f177c"), looks := false }, kinds := [], alts := [], laidByText := true, laidKinds := [.data, .pinned], laidTests := true, laidLooks := .later }
def FnExactToadMovesCardSaid : Prop := Claim7.holds Tryd.pinned (.plain (OpenSpec.ofChange fnExactToadMovesSpec)) fnExactToadMovesCard

/-- THE TIED CARD OF 'laws.FnExactFrogMoves'. -/
def fnExactFrogMovesCard : Claim7 := { stood := { row := fnExactFrogMovesRow, standIns := [], harness := (true, "e44fed8d78c1ab1e9bdba0ad5e71e436b4ced7ed7840e2a5d214fa7cef7f177c"), looks := false }, kinds := [], alts := [], laidByText := true, laidKinds := [.data, .pinned], laidTests := true, laidLooks := .later }
def FnExactFrogMovesCardSaid : Prop := Claim7.holds Tryd.pinned (.plain (OpenSpec.ofChange fnExactFrogMovesSpec)) fnExactFrogMovesCard

/-- THE TIED CARD OF 'laws.FnExactCanPlay'. -/
def fnExactCanPlayCard : Claim7 := { stood := { row := fnExactCanPlayRow, standIns := [], harness := (true, "e44fed8d78c1ab1e9bdba0ad5e71e436b4ced7ed7840e2a5d214fa7cef7f177c"), looks := false }, kinds := [], alts := [], laidByText := true, laidKinds := [.data, .pinned], laidTests := true, laidLooks := .later }
def FnExactCanPlayCardSaid : Prop := Claim7.holds Tryd.pinned (.plain (OpenSpec.ofChange fnExactCanPlaySpec)) fnExactCanPlayCard

/-- THE TIED CARD OF 'laws.FnExactPlayWord'. -/
def fnExactPlayWordCard : Claim7 := { stood := { row := fnExactPlayWordRow, standIns := [], harness := (true, "e44fed8d78c1ab1e9bdba0ad5e71e436b4ced7ed7840e2a5d214fa7cef7f177c"), looks := false }, kinds := [], alts := [], laidByText := true, laidKinds := [.data, .pinned], laidTests := true, laidLooks := .later }
def FnExactPlayWordCardSaid : Prop := Claim7.holds Tryd.pinned (.plain (OpenSpec.ofChange fnExactPlayWordSpec)) fnExactPlayWordCard

/-- THE TIED CARD OF 'laws.FnExactSignThatFails'. -/
def fnExactSignThatFailsCard : Claim7 := { stood := { row := fnExactSignThatFailsRow, standIns := [], harness := (true, "e44fed8d78c1ab1e9bdba0ad5e71e436b4ced7ed7840e2a5d214fa7cef7f177c"), looks := false }, kinds := [], alts := [], laidByText := true, laidKinds := [.data, .pinned], laidTests := true, laidLooks := .later }
def FnExactSignThatFailsCardSaid : Prop := Claim7.holds Tryd.pinned (.plain (OpenSpec.ofChange fnExactSignThatFailsSpec)) fnExactSignThatFailsCard

/-- THE TIED CARD OF 'laws.FnExactMovesOfWord'. -/
def fnExactMovesOfWordCard : Claim7 := { stood := { row := fnExactMovesOfWordRow, standIns := [], harness := (true, "e44fed8d78c1ab1e9bdba0ad5e71e436b4ced7ed7840e2a5d214fa7cef7f177c"), looks := false }, kinds := [], alts := [], laidByText := true, laidKinds := [.data, .pinned], laidTests := true, laidLooks := .later }
def FnExactMovesOfWordCardSaid : Prop := Claim7.holds Tryd.pinned (.plain (OpenSpec.ofChange fnExactMovesOfWordSpec)) fnExactMovesOfWordCard

/-- THE SECOND FORM's CARD OF 'laws.FnExactOtherLine'. -/
def fnExactOtherLineUptoCard : Claim7 := { stood := { row := fnExactOtherLineUptoRow, standIns := [], harness := (true, "e44fed8d78c1ab1e9bdba0ad5e71e436b4ced7ed7840e2a5d214fa7cef7f177c"), looks := false }, kinds := [], alts := [], laidByText := true, laidKinds := [.data, .pinned], laidTests := true, laidLooks := .later }
def FnExactOtherLineUptoCardSaid : Prop := Claim7.holds Tryd.pinned (.plain (OpenSpec.upto fnExactOtherLineSpec)) fnExactOtherLineUptoCard

/-- THE SECOND FORM's CARD OF 'laws.FnExactMirrorRing'. -/
def fnExactMirrorRingUptoCard : Claim7 := { stood := { row := fnExactMirrorRingUptoRow, standIns := [], harness := (true, "e44fed8d78c1ab1e9bdba0ad5e71e436b4ced7ed7840e2a5d214fa7cef7f177c"), looks := false }, kinds := [], alts := [], laidByText := true, laidKinds := [.data, .pinned], laidTests := true, laidLooks := .later }
def FnExactMirrorRingUptoCardSaid : Prop := Claim7.holds Tryd.pinned (.plain (OpenSpec.upto fnExactMirrorRingSpec)) fnExactMirrorRingUptoCard

/-- THE SECOND FORM's CARD OF 'laws.FnExactOtherBoard'. -/
def fnExactOtherBoardUptoCard : Claim7 := { stood := { row := fnExactOtherBoardUptoRow, standIns := [], harness := (true, "e44fed8d78c1ab1e9bdba0ad5e71e436b4ced7ed7840e2a5d214fa7cef7f177c"), looks := false }, kinds := [], alts := [], laidByText := true, laidKinds := [.data, .pinned], laidTests := true, laidLooks := .later }
def FnExactOtherBoardUptoCardSaid : Prop := Claim7.holds Tryd.pinned (.plain (OpenSpec.upto fnExactOtherBoardSpec)) fnExactOtherBoardUptoCard

/-- THE SECOND FORM's CARD OF 'laws.FnExactIsBlocked'. -/
def fnExactIsBlockedUptoCard : Claim7 := { stood := { row := fnExactIsBlockedUptoRow, standIns := [], harness := (true, "e44fed8d78c1ab1e9bdba0ad5e71e436b4ced7ed7840e2a5d214fa7cef7f177c"), looks := false }, kinds := [], alts := [], laidByText := true, laidKinds := [.data, .pinned], laidTests := true, laidLooks := .later }
def FnExactIsBlockedUptoCardSaid : Prop := Claim7.holds Tryd.pinned (.plain (OpenSpec.upto fnExactIsBlockedSpec)) fnExactIsBlockedUptoCard

/-- THE SECOND FORM's CARD OF 'laws.FnExactMovesOf'. -/
def fnExactMovesOfUptoCard : Claim7 := { stood := { row := fnExactMovesOfUptoRow, standIns := [], harness := (true, "e44fed8d78c1ab1e9bdba0ad5e71e436b4ced7ed7840e2a5d214fa7cef7f177c"), looks := false }, kinds := [], alts := [], laidByText := true, laidKinds := [.data, .pinned], laidTests := true, laidLooks := .later }
def FnExactMovesOfUptoCardSaid : Prop := Claim7.holds Tryd.pinned (.plain (OpenSpec.upto fnExactMovesOfSpec)) fnExactMovesOfUptoCard

/-- THE SECOND FORM's CARD OF 'laws.FnExactToadMoves'. -/
def fnExactToadMovesUptoCard : Claim7 := { stood := { row := fnExactToadMovesUptoRow, standIns := [], harness := (true, "e44fed8d78c1ab1e9bdba0ad5e71e436b4ced7ed7840e2a5d214fa7cef7f177c"), looks := false }, kinds := [], alts := [], laidByText := true, laidKinds := [.data, .pinned], laidTests := true, laidLooks := .later }
def FnExactToadMovesUptoCardSaid : Prop := Claim7.holds Tryd.pinned (.plain (OpenSpec.upto fnExactToadMovesSpec)) fnExactToadMovesUptoCard

/-- THE SECOND FORM's CARD OF 'laws.FnExactFrogMoves'. -/
def fnExactFrogMovesUptoCard : Claim7 := { stood := { row := fnExactFrogMovesUptoRow, standIns := [], harness := (true, "e44fed8d78c1ab1e9bdba0ad5e71e436b4ced7ed7840e2a5d214fa7cef7f177c"), looks := false }, kinds := [], alts := [], laidByText := true, laidKinds := [.data, .pinned], laidTests := true, laidLooks := .later }
def FnExactFrogMovesUptoCardSaid : Prop := Claim7.holds Tryd.pinned (.plain (OpenSpec.upto fnExactFrogMovesSpec)) fnExactFrogMovesUptoCard

/-- THE SECOND FORM's CARD OF 'laws.FnExactCanPlay'. -/
def fnExactCanPlayUptoCard : Claim7 := { stood := { row := fnExactCanPlayUptoRow, standIns := [], harness := (true, "e44fed8d78c1ab1e9bdba0ad5e71e436b4ced7ed7840e2a5d214fa7cef7f177c"), looks := false }, kinds := [], alts := [], laidByText := true, laidKinds := [.data, .pinned], laidTests := true, laidLooks := .later }
def FnExactCanPlayUptoCardSaid : Prop := Claim7.holds Tryd.pinned (.plain (OpenSpec.upto fnExactCanPlaySpec)) fnExactCanPlayUptoCard

/-- THE SECOND FORM's CARD OF 'laws.FnExactPlayWord'. -/
def fnExactPlayWordUptoCard : Claim7 := { stood := { row := fnExactPlayWordUptoRow, standIns := [], harness := (true, "e44fed8d78c1ab1e9bdba0ad5e71e436b4ced7ed7840e2a5d214fa7cef7f177c"), looks := false }, kinds := [], alts := [], laidByText := true, laidKinds := [.data, .pinned], laidTests := true, laidLooks := .later }
def FnExactPlayWordUptoCardSaid : Prop := Claim7.holds Tryd.pinned (.plain (OpenSpec.upto fnExactPlayWordSpec)) fnExactPlayWordUptoCard

/-- THE SECOND FORM's CARD OF 'laws.FnExactSignThatFails'. -/
def fnExactSignThatFailsUptoCard : Claim7 := { stood := { row := fnExactSignThatFailsUptoRow, standIns := [], harness := (true, "e44fed8d78c1ab1e9bdba0ad5e71e436b4ced7ed7840e2a5d214fa7cef7f177c"), looks := false }, kinds := [], alts := [], laidByText := true, laidKinds := [.data, .pinned], laidTests := true, laidLooks := .later }
def FnExactSignThatFailsUptoCardSaid : Prop := Claim7.holds Tryd.pinned (.plain (OpenSpec.upto fnExactSignThatFailsSpec)) fnExactSignThatFailsUptoCard

/-- THE SECOND FORM's CARD OF 'laws.FnExactMovesOfWord'. -/
def fnExactMovesOfWordUptoCard : Claim7 := { stood := { row := fnExactMovesOfWordUptoRow, standIns := [], harness := (true, "e44fed8d78c1ab1e9bdba0ad5e71e436b4ced7ed7840e2a5d214fa7cef7f177c"), looks := false }, kinds := [], alts := [], laidByText := true, laidKinds := [.data, .pinned], laidTests := true, laidLooks := .later }
def FnExactMovesOfWordUptoCardSaid : Prop := Claim7.holds Tryd.pinned (.plain (OpenSpec.upto fnExactMovesOfWordSpec)) fnExactMovesOfWordUptoCard
end Rows
end Go.Proofs.YtmnpccdioifhoaaDoor
