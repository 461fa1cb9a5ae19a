/-
  DERIVED. GIVEN WITH THE SEED: THE CARDS: each row of YtjpabjmcooiflaaDoorRows.lean that lists a variable, with what it lists TIED to the program's text (the seventh form; the later family's looks); each row that meets fmt, with fmt's text TOLD by the authors' own Lean function (tested against real Go, not proved from fmt's source: count such statements apart). THE CARD IS WHAT COUNTS. Prove the row's statement (the work); the ties are given (YtjpabjmcooiflaaDoorTie.lean); close each card by the builder's one call (the guide's Derived/Test/ToyasCard.lean, 'card_holds'). Laid BY PROGRAM, IN A SANDBOX (cutbox-door.mjs). By AI agents, Wed Nov 11 2026. No macro, syntax, notation, axiom, sorry.
-/
import Derived.Test.YtjpabjmcooiflaaDoorRows
import GoSem.ClaimSeven
namespace Go.Proofs.YtjpabjmcooiflaaDoor
namespace Rows

/-- THE TIED CARD OF 'laws.FnExactKindsOfWord'. -/
def fnExactKindsOfWordCard : Claim7 := { stood := { row := fnExactKindsOfWordRow, standIns := [], harness := (true, "77314d19055fd1f712b1008845d644d0af8847b39eaf2a102ee7cd0b4373f3b5"), looks := false }, kinds := [], alts := [], laidByText := true, laidKinds := [.data, .pinned], laidTests := true, laidLooks := .later }
def FnExactKindsOfWordCardSaid : Prop := Claim7.holds Tryd.pinned (.plain (OpenSpec.ofChange fnExactKindsOfWordSpec)) fnExactKindsOfWordCard

/-- THE TIED CARD OF 'laws.FnExactFreeMoves'. -/
def fnExactFreeMovesCard : Claim7 := { stood := { row := fnExactFreeMovesRow, standIns := [], harness := (true, "77314d19055fd1f712b1008845d644d0af8847b39eaf2a102ee7cd0b4373f3b5"), looks := false }, kinds := [], alts := [], laidByText := true, laidKinds := [.data, .pinned], laidTests := true, laidLooks := .later }
def FnExactFreeMovesCardSaid : Prop := Claim7.holds Tryd.pinned (.plain (OpenSpec.ofChange fnExactFreeMovesSpec)) fnExactFreeMovesCard

/-- THE TIED CARD OF 'laws.FnExactWinsMoving'. -/
def fnExactWinsMovingCard : Claim7 := { stood := { row := fnExactWinsMovingRow, standIns := [], harness := (true, "77314d19055fd1f712b1008845d644d0af8847b39eaf2a102ee7cd0b4373f3b5"), looks := false }, kinds := [], alts := [], laidByText := true, laidKinds := [.data, .pinned], laidTests := true, laidLooks := .later }
def FnExactWinsMovingCardSaid : Prop := Claim7.holds Tryd.pinned (.plain (OpenSpec.ofChange fnExactWinsMovingSpec)) fnExactWinsMovingCard

/-- THE TIED CARD OF 'laws.FnExactOutcomeOf'. -/
def fnExactOutcomeOfCard : Claim7 := { stood := { row := fnExactOutcomeOfRow, standIns := [], harness := (true, "77314d19055fd1f712b1008845d644d0af8847b39eaf2a102ee7cd0b4373f3b5"), looks := false }, kinds := [], alts := [], laidByText := true, laidKinds := [.data, .pinned], laidTests := true, laidLooks := .later }
def FnExactOutcomeOfCardSaid : Prop := Claim7.holds Tryd.pinned (.plain (OpenSpec.ofChange fnExactOutcomeOfSpec)) fnExactOutcomeOfCard

/-- THE TIED CARD OF 'laws.FnExactIsNothing'. -/
def fnExactIsNothingCard : Claim7 := { stood := { row := fnExactIsNothingRow, standIns := [], harness := (true, "77314d19055fd1f712b1008845d644d0af8847b39eaf2a102ee7cd0b4373f3b5"), looks := false }, kinds := [], alts := [], laidByText := true, laidKinds := [.data, .pinned], laidTests := true, laidLooks := .later }
def FnExactIsNothingCardSaid : Prop := Claim7.holds Tryd.pinned (.plain (OpenSpec.ofChange fnExactIsNothingSpec)) fnExactIsNothingCard

/-- THE TIED CARD OF 'laws.FnExactWinsSum'. -/
def fnExactWinsSumCard : Claim7 := { stood := { row := fnExactWinsSumRow, standIns := [], harness := (true, "77314d19055fd1f712b1008845d644d0af8847b39eaf2a102ee7cd0b4373f3b5"), looks := false }, kinds := [], alts := [], laidByText := true, laidKinds := [.data, .pinned], laidTests := true, laidLooks := .later }
def FnExactWinsSumCardSaid : Prop := Claim7.holds Tryd.pinned (.plain (OpenSpec.ofChange fnExactWinsSumSpec)) fnExactWinsSumCard

/-- THE TIED CARD OF 'laws.FnExactOutcomeOfSum'. -/
def fnExactOutcomeOfSumCard : Claim7 := { stood := { row := fnExactOutcomeOfSumRow, standIns := [], harness := (true, "77314d19055fd1f712b1008845d644d0af8847b39eaf2a102ee7cd0b4373f3b5"), looks := false }, kinds := [], alts := [], laidByText := true, laidKinds := [.data, .pinned], laidTests := true, laidLooks := .later }
def FnExactOutcomeOfSumCardSaid : Prop := Claim7.holds Tryd.pinned (.plain (OpenSpec.ofChange fnExactOutcomeOfSumSpec)) fnExactOutcomeOfSumCard

/-- THE TIED CARD OF 'laws.FnExactCompareGames'. -/
def fnExactCompareGamesCard : Claim7 := { stood := { row := fnExactCompareGamesRow, standIns := [], harness := (true, "77314d19055fd1f712b1008845d644d0af8847b39eaf2a102ee7cd0b4373f3b5"), looks := false }, kinds := [], alts := [], laidByText := true, laidKinds := [.data, .pinned], laidTests := true, laidLooks := .later }
def FnExactCompareGamesCardSaid : Prop := Claim7.holds Tryd.pinned (.plain (OpenSpec.ofChange fnExactCompareGamesSpec)) fnExactCompareGamesCard

/-- THE TIED CARD OF 'laws.FnExactBestMoves'. -/
def fnExactBestMovesCard : Claim7 := { stood := { row := fnExactBestMovesRow, standIns := [], harness := (true, "77314d19055fd1f712b1008845d644d0af8847b39eaf2a102ee7cd0b4373f3b5"), looks := false }, kinds := [], alts := [], laidByText := true, laidKinds := [.data, .pinned], laidTests := true, laidLooks := .later }
def FnExactBestMovesCardSaid : Prop := Claim7.holds Tryd.pinned (.plain (OpenSpec.ofChange fnExactBestMovesSpec)) fnExactBestMovesCard

/-- THE TIED CARD OF 'laws.FnExactGameMove'. -/
def fnExactGameMoveCard : Claim7 := { stood := { row := fnExactGameMoveRow, standIns := [], harness := (true, "77314d19055fd1f712b1008845d644d0af8847b39eaf2a102ee7cd0b4373f3b5"), looks := false }, kinds := [], alts := [], laidByText := true, laidKinds := [.data, .pinned], laidTests := true, laidLooks := .later }
def FnExactGameMoveCardSaid : Prop := Claim7.holds Tryd.pinned (.plain (OpenSpec.ofChange fnExactGameMoveSpec)) fnExactGameMoveCard

/-- THE TIED CARD OF 'laws.FnExactGamePlay'. -/
def fnExactGamePlayCard : Claim7 := { stood := { row := fnExactGamePlayRow, standIns := [], harness := (true, "77314d19055fd1f712b1008845d644d0af8847b39eaf2a102ee7cd0b4373f3b5"), looks := false }, kinds := [], alts := [], laidByText := true, laidKinds := [.data, .pinned], laidTests := true, laidLooks := .later }
def FnExactGamePlayCardSaid : Prop := Claim7.holds Tryd.pinned (.plain (OpenSpec.ofChange fnExactGamePlaySpec)) fnExactGamePlayCard

/-- THE SECOND FORM's CARD OF 'laws.FnExactKindsOfWord'. -/
def fnExactKindsOfWordUptoCard : Claim7 := { stood := { row := fnExactKindsOfWordUptoRow, standIns := [], harness := (true, "77314d19055fd1f712b1008845d644d0af8847b39eaf2a102ee7cd0b4373f3b5"), looks := false }, kinds := [], alts := [], laidByText := true, laidKinds := [.data, .pinned], laidTests := true, laidLooks := .later }
def FnExactKindsOfWordUptoCardSaid : Prop := Claim7.holds Tryd.pinned (.plain (OpenSpec.upto fnExactKindsOfWordSpec)) fnExactKindsOfWordUptoCard

/-- THE SECOND FORM's CARD OF 'laws.FnExactFreeMoves'. -/
def fnExactFreeMovesUptoCard : Claim7 := { stood := { row := fnExactFreeMovesUptoRow, standIns := [], harness := (true, "77314d19055fd1f712b1008845d644d0af8847b39eaf2a102ee7cd0b4373f3b5"), looks := false }, kinds := [], alts := [], laidByText := true, laidKinds := [.data, .pinned], laidTests := true, laidLooks := .later }
def FnExactFreeMovesUptoCardSaid : Prop := Claim7.holds Tryd.pinned (.plain (OpenSpec.upto fnExactFreeMovesSpec)) fnExactFreeMovesUptoCard

/-- THE SECOND FORM's CARD OF 'laws.FnExactWinsMoving'. -/
def fnExactWinsMovingUptoCard : Claim7 := { stood := { row := fnExactWinsMovingUptoRow, standIns := [], harness := (true, "77314d19055fd1f712b1008845d644d0af8847b39eaf2a102ee7cd0b4373f3b5"), looks := false }, kinds := [], alts := [], laidByText := true, laidKinds := [.data, .pinned], laidTests := true, laidLooks := .later }
def FnExactWinsMovingUptoCardSaid : Prop := Claim7.holds Tryd.pinned (.plain (OpenSpec.upto fnExactWinsMovingSpec)) fnExactWinsMovingUptoCard

/-- THE SECOND FORM's CARD OF 'laws.FnExactOutcomeOf'. -/
def fnExactOutcomeOfUptoCard : Claim7 := { stood := { row := fnExactOutcomeOfUptoRow, standIns := [], harness := (true, "77314d19055fd1f712b1008845d644d0af8847b39eaf2a102ee7cd0b4373f3b5"), looks := false }, kinds := [], alts := [], laidByText := true, laidKinds := [.data, .pinned], laidTests := true, laidLooks := .later }
def FnExactOutcomeOfUptoCardSaid : Prop := Claim7.holds Tryd.pinned (.plain (OpenSpec.upto fnExactOutcomeOfSpec)) fnExactOutcomeOfUptoCard

/-- THE SECOND FORM's CARD OF 'laws.FnExactIsNothing'. -/
def fnExactIsNothingUptoCard : Claim7 := { stood := { row := fnExactIsNothingUptoRow, standIns := [], harness := (true, "77314d19055fd1f712b1008845d644d0af8847b39eaf2a102ee7cd0b4373f3b5"), looks := false }, kinds := [], alts := [], laidByText := true, laidKinds := [.data, .pinned], laidTests := true, laidLooks := .later }
def FnExactIsNothingUptoCardSaid : Prop := Claim7.holds Tryd.pinned (.plain (OpenSpec.upto fnExactIsNothingSpec)) fnExactIsNothingUptoCard

/-- THE SECOND FORM's CARD OF 'laws.FnExactWinsSum'. -/
def fnExactWinsSumUptoCard : Claim7 := { stood := { row := fnExactWinsSumUptoRow, standIns := [], harness := (true, "77314d19055fd1f712b1008845d644d0af8847b39eaf2a102ee7cd0b4373f3b5"), looks := false }, kinds := [], alts := [], laidByText := true, laidKinds := [.data, .pinned], laidTests := true, laidLooks := .later }
def FnExactWinsSumUptoCardSaid : Prop := Claim7.holds Tryd.pinned (.plain (OpenSpec.upto fnExactWinsSumSpec)) fnExactWinsSumUptoCard

/-- THE SECOND FORM's CARD OF 'laws.FnExactOutcomeOfSum'. -/
def fnExactOutcomeOfSumUptoCard : Claim7 := { stood := { row := fnExactOutcomeOfSumUptoRow, standIns := [], harness := (true, "77314d19055fd1f712b1008845d644d0af8847b39eaf2a102ee7cd0b4373f3b5"), looks := false }, kinds := [], alts := [], laidByText := true, laidKinds := [.data, .pinned], laidTests := true, laidLooks := .later }
def FnExactOutcomeOfSumUptoCardSaid : Prop := Claim7.holds Tryd.pinned (.plain (OpenSpec.upto fnExactOutcomeOfSumSpec)) fnExactOutcomeOfSumUptoCard

/-- THE SECOND FORM's CARD OF 'laws.FnExactCompareGames'. -/
def fnExactCompareGamesUptoCard : Claim7 := { stood := { row := fnExactCompareGamesUptoRow, standIns := [], harness := (true, "77314d19055fd1f712b1008845d644d0af8847b39eaf2a102ee7cd0b4373f3b5"), looks := false }, kinds := [], alts := [], laidByText := true, laidKinds := [.data, .pinned], laidTests := true, laidLooks := .later }
def FnExactCompareGamesUptoCardSaid : Prop := Claim7.holds Tryd.pinned (.plain (OpenSpec.upto fnExactCompareGamesSpec)) fnExactCompareGamesUptoCard

/-- THE SECOND FORM's CARD OF 'laws.FnExactBestMoves'. -/
def fnExactBestMovesUptoCard : Claim7 := { stood := { row := fnExactBestMovesUptoRow, standIns := [], harness := (true, "77314d19055fd1f712b1008845d644d0af8847b39eaf2a102ee7cd0b4373f3b5"), looks := false }, kinds := [], alts := [], laidByText := true, laidKinds := [.data, .pinned], laidTests := true, laidLooks := .later }
def FnExactBestMovesUptoCardSaid : Prop := Claim7.holds Tryd.pinned (.plain (OpenSpec.upto fnExactBestMovesSpec)) fnExactBestMovesUptoCard

/-- THE SECOND FORM's CARD OF 'laws.FnExactGameMove'. -/
def fnExactGameMoveUptoCard : Claim7 := { stood := { row := fnExactGameMoveUptoRow, standIns := [], harness := (true, "77314d19055fd1f712b1008845d644d0af8847b39eaf2a102ee7cd0b4373f3b5"), looks := false }, kinds := [], alts := [], laidByText := true, laidKinds := [.data, .pinned], laidTests := true, laidLooks := .later }
def FnExactGameMoveUptoCardSaid : Prop := Claim7.holds Tryd.pinned (.plain (OpenSpec.upto fnExactGameMoveSpec)) fnExactGameMoveUptoCard

/-- THE SECOND FORM's CARD OF 'laws.FnExactGamePlay'. -/
def fnExactGamePlayUptoCard : Claim7 := { stood := { row := fnExactGamePlayUptoRow, standIns := [], harness := (true, "77314d19055fd1f712b1008845d644d0af8847b39eaf2a102ee7cd0b4373f3b5"), looks := false }, kinds := [], alts := [], laidByText := true, laidKinds := [.data, .pinned], laidTests := true, laidLooks := .later }
def FnExactGamePlayUptoCardSaid : Prop := Claim7.holds Tryd.pinned (.plain (OpenSpec.upto fnExactGamePlaySpec)) fnExactGamePlayUptoCard
end Rows
end Go.Proofs.YtjpabjmcooiflaaDoor
