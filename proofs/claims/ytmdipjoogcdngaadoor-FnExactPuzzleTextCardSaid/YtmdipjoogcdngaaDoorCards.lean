/-
  DERIVED. GIVEN WITH THE SEED: THE CARDS: each row of YtmdipjoogcdngaaDoorRows.lean that lists a variable, with what it lists TIED to the program's text (the seventh form; the later family's looks); each row that meets fmt, with fmt's text TOLD by the authors' own Lean function (tested against real Go, not proved from fmt's source: count such statements apart). THE CARD IS WHAT COUNTS. Prove the row's statement (the work); the ties are given (YtmdipjoogcdngaaDoorTie.lean); close each card by the builder's one call (the guide's Derived/Test/ToyasCard.lean, 'card_holds'). Laid BY PROGRAM, IN A SANDBOX (cutbox-door.mjs). By AI agents, Wed Nov 11 2026. No macro, syntax, notation, axiom, sorry.
-/
import Derived.Test.YtmdipjoogcdngaaDoorRows
import GoSem.ClaimSeven
namespace Go.Proofs.YtmdipjoogcdngaaDoor
namespace Rows

/-- THE TIED CARD OF 'laws.FnExactOtherBoard'. -/
def fnExactOtherBoardCard : Claim7 := { stood := { row := fnExactOtherBoardRow, standIns := [], harness := (true, "96f50023b8ed14bb84e1bef42bc879847c9568c1c3219ce9c595af18107b37de"), looks := true }, kinds := [], alts := [], laidByText := true, laidKinds := [.data, .pinned], laidTests := true, laidLooks := .later }
def FnExactOtherBoardCardSaid : Prop := Claim7.holds Tryd.pinned (.plain (OpenSpec.ofChange fnExactOtherBoardSpec)) fnExactOtherBoardCard

/-- THE TIED CARD OF 'laws.FnExactDoesFit'. -/
def fnExactDoesFitCard : Claim7 := { stood := { row := fnExactDoesFitRow, standIns := [], harness := (true, "96f50023b8ed14bb84e1bef42bc879847c9568c1c3219ce9c595af18107b37de"), looks := true }, kinds := [], alts := [], laidByText := true, laidKinds := [.data, .pinned], laidTests := true, laidLooks := .later }
def FnExactDoesFitCardSaid : Prop := Claim7.holds Tryd.pinned (.plain (OpenSpec.ofChange fnExactDoesFitSpec)) fnExactDoesFitCard

/-- THE TIED CARD OF 'laws.FnExactMakePuzzle'. -/
def fnExactMakePuzzleCard : Claim7 := { stood := { row := fnExactMakePuzzleRow, standIns := [], harness := (true, "96f50023b8ed14bb84e1bef42bc879847c9568c1c3219ce9c595af18107b37de"), looks := true }, kinds := [], alts := [], laidByText := true, laidKinds := [.data, .pinned], laidTests := true, laidLooks := .later }
def FnExactMakePuzzleCardSaid : Prop := Claim7.holds Tryd.pinned (.plain (OpenSpec.ofChange fnExactMakePuzzleSpec)) fnExactMakePuzzleCard

/-- THE TIED CARD OF 'laws.FnExactCrossBoard'. -/
def fnExactCrossBoardCard : Claim7 := { stood := { row := fnExactCrossBoardRow, standIns := [], harness := (true, "96f50023b8ed14bb84e1bef42bc879847c9568c1c3219ce9c595af18107b37de"), looks := true }, kinds := [], alts := [], laidByText := true, laidKinds := [.data, .pinned], laidTests := true, laidLooks := .later }
def FnExactCrossBoardCardSaid : Prop := Claim7.holds Tryd.pinned (.plain (OpenSpec.ofChange fnExactCrossBoardSpec)) fnExactCrossBoardCard

/-- THE TIED CARD OF 'laws.FnExactColumnOfBoard'. -/
def fnExactColumnOfBoardCard : Claim7 := { stood := { row := fnExactColumnOfBoardRow, standIns := [], harness := (true, "96f50023b8ed14bb84e1bef42bc879847c9568c1c3219ce9c595af18107b37de"), looks := true }, kinds := [], alts := [], laidByText := true, laidKinds := [.data, .pinned], laidTests := true, laidLooks := .later }
def FnExactColumnOfBoardCardSaid : Prop := Claim7.holds Tryd.pinned (.plain (OpenSpec.ofChange fnExactColumnOfBoardSpec)) fnExactColumnOfBoardCard

/-- THE TIED CARD OF 'laws.FnExactPuzzleText'. -/
def fnExactPuzzleTextCard : Claim7 := { stood := { row := fnExactPuzzleTextRow, standIns := [], harness := (true, "96f50023b8ed14bb84e1bef42bc879847c9568c1c3219ce9c595af18107b37de"), looks := true }, kinds := [], alts := [], laidByText := true, laidKinds := [.data, .data, .data], laidTests := true, laidLooks := .later }
def FnExactPuzzleTextCardSaid : Prop := Claim7.holds Tryd.pinned (.plain (OpenSpec.ofChange fnExactPuzzleTextSpec)) fnExactPuzzleTextCard

/-- THE TIED CARD OF 'laws.FnExactParsePuzzle'. -/
def fnExactParsePuzzleCard : Claim7 := { stood := { row := fnExactParsePuzzleRow, standIns := [], harness := (true, "96f50023b8ed14bb84e1bef42bc879847c9568c1c3219ce9c595af18107b37de"), looks := true }, kinds := [], alts := [], laidByText := true, laidKinds := [.data, .data, .data, .data, .sentinel, .sentinel, .pinned], laidTests := true, laidLooks := .later }
def FnExactParsePuzzleCardSaid : Prop := Claim7.holds Tryd.pinned (.plain (OpenSpec.ofChange fnExactParsePuzzleSpec)) fnExactParsePuzzleCard

/-- THE TIED CARD OF 'laws.FnRulesMoveOfAll'. -/
def fnRulesMoveOfAllCard : Claim7 := { stood := { row := fnRulesMoveOfAllRow, standIns := [], harness := (true, "96f50023b8ed14bb84e1bef42bc879847c9568c1c3219ce9c595af18107b37de"), looks := true }, kinds := [], alts := [], laidByText := true, laidKinds := [.data, .pinned], laidTests := true, laidLooks := .later }
def FnRulesMoveOfAllCardSaid : Prop := Claim7.holds Tryd.pinned (.plain (OpenSpec.ofChange fnRulesMoveOfAllSpec)) fnRulesMoveOfAllCard

/-- THE TIED CARD OF 'laws.FnMovesMadeOfAll'. -/
def fnMovesMadeOfAllCard : Claim7 := { stood := { row := fnMovesMadeOfAllRow, standIns := [], harness := (true, "96f50023b8ed14bb84e1bef42bc879847c9568c1c3219ce9c595af18107b37de"), looks := true }, kinds := [], alts := [], laidByText := true, laidKinds := [.data, .pinned], laidTests := true, laidLooks := .later }
def FnMovesMadeOfAllCardSaid : Prop := Claim7.holds Tryd.pinned (.plain (OpenSpec.ofChange fnMovesMadeOfAllSpec)) fnMovesMadeOfAllCard

/-- THE SECOND FORM's CARD OF 'laws.FnExactOtherBoard'. -/
def fnExactOtherBoardUptoCard : Claim7 := { stood := { row := fnExactOtherBoardUptoRow, standIns := [], harness := (true, "96f50023b8ed14bb84e1bef42bc879847c9568c1c3219ce9c595af18107b37de"), looks := true }, kinds := [], alts := [], laidByText := true, laidKinds := [.data, .pinned], laidTests := true, laidLooks := .later }
def FnExactOtherBoardUptoCardSaid : Prop := Claim7.holds Tryd.pinned (.plain (OpenSpec.upto fnExactOtherBoardSpec)) fnExactOtherBoardUptoCard

/-- THE SECOND FORM's CARD OF 'laws.FnExactDoesFit'. -/
def fnExactDoesFitUptoCard : Claim7 := { stood := { row := fnExactDoesFitUptoRow, standIns := [], harness := (true, "96f50023b8ed14bb84e1bef42bc879847c9568c1c3219ce9c595af18107b37de"), looks := true }, kinds := [], alts := [], laidByText := true, laidKinds := [.data, .pinned], laidTests := true, laidLooks := .later }
def FnExactDoesFitUptoCardSaid : Prop := Claim7.holds Tryd.pinned (.plain (OpenSpec.upto fnExactDoesFitSpec)) fnExactDoesFitUptoCard

/-- THE SECOND FORM's CARD OF 'laws.FnExactMakePuzzle'. -/
def fnExactMakePuzzleUptoCard : Claim7 := { stood := { row := fnExactMakePuzzleUptoRow, standIns := [], harness := (true, "96f50023b8ed14bb84e1bef42bc879847c9568c1c3219ce9c595af18107b37de"), looks := true }, kinds := [], alts := [], laidByText := true, laidKinds := [.data, .pinned], laidTests := true, laidLooks := .later }
def FnExactMakePuzzleUptoCardSaid : Prop := Claim7.holds Tryd.pinned (.plain (OpenSpec.upto fnExactMakePuzzleSpec)) fnExactMakePuzzleUptoCard

/-- THE SECOND FORM's CARD OF 'laws.FnExactCrossBoard'. -/
def fnExactCrossBoardUptoCard : Claim7 := { stood := { row := fnExactCrossBoardUptoRow, standIns := [], harness := (true, "96f50023b8ed14bb84e1bef42bc879847c9568c1c3219ce9c595af18107b37de"), looks := true }, kinds := [], alts := [], laidByText := true, laidKinds := [.data, .pinned], laidTests := true, laidLooks := .later }
def FnExactCrossBoardUptoCardSaid : Prop := Claim7.holds Tryd.pinned (.plain (OpenSpec.upto fnExactCrossBoardSpec)) fnExactCrossBoardUptoCard

/-- THE SECOND FORM's CARD OF 'laws.FnExactColumnOfBoard'. -/
def fnExactColumnOfBoardUptoCard : Claim7 := { stood := { row := fnExactColumnOfBoardUptoRow, standIns := [], harness := (true, "96f50023b8ed14bb84e1bef42bc879847c9568c1c3219ce9c595af18107b37de"), looks := true }, kinds := [], alts := [], laidByText := true, laidKinds := [.data, .pinned], laidTests := true, laidLooks := .later }
def FnExactColumnOfBoardUptoCardSaid : Prop := Claim7.holds Tryd.pinned (.plain (OpenSpec.upto fnExactColumnOfBoardSpec)) fnExactColumnOfBoardUptoCard

/-- THE SECOND FORM's CARD OF 'laws.FnExactPuzzleText'. -/
def fnExactPuzzleTextUptoCard : Claim7 := { stood := { row := fnExactPuzzleTextUptoRow, standIns := [], harness := (true, "96f50023b8ed14bb84e1bef42bc879847c9568c1c3219ce9c595af18107b37de"), looks := true }, kinds := [], alts := [], laidByText := true, laidKinds := [.data, .data, .data], laidTests := true, laidLooks := .later }
def FnExactPuzzleTextUptoCardSaid : Prop := Claim7.holds Tryd.pinned (.plain (OpenSpec.upto fnExactPuzzleTextSpec)) fnExactPuzzleTextUptoCard

/-- THE SECOND FORM's CARD OF 'laws.FnExactParsePuzzle'. -/
def fnExactParsePuzzleUptoCard : Claim7 := { stood := { row := fnExactParsePuzzleUptoRow, standIns := [], harness := (true, "96f50023b8ed14bb84e1bef42bc879847c9568c1c3219ce9c595af18107b37de"), looks := true }, kinds := [], alts := [], laidByText := true, laidKinds := [.data, .data, .data, .data, .sentinel, .sentinel, .pinned], laidTests := true, laidLooks := .later }
def FnExactParsePuzzleUptoCardSaid : Prop := Claim7.holds Tryd.pinned (.plain (OpenSpec.upto fnExactParsePuzzleSpec)) fnExactParsePuzzleUptoCard

/-- THE SECOND FORM's CARD OF 'laws.FnRulesMoveOfAll'. -/
def fnRulesMoveOfAllUptoCard : Claim7 := { stood := { row := fnRulesMoveOfAllUptoRow, standIns := [], harness := (true, "96f50023b8ed14bb84e1bef42bc879847c9568c1c3219ce9c595af18107b37de"), looks := true }, kinds := [], alts := [], laidByText := true, laidKinds := [.data, .pinned], laidTests := true, laidLooks := .later }
def FnRulesMoveOfAllUptoCardSaid : Prop := Claim7.holds Tryd.pinned (.plain (OpenSpec.upto fnRulesMoveOfAllSpec)) fnRulesMoveOfAllUptoCard

/-- THE SECOND FORM's CARD OF 'laws.FnMovesMadeOfAll'. -/
def fnMovesMadeOfAllUptoCard : Claim7 := { stood := { row := fnMovesMadeOfAllUptoRow, standIns := [], harness := (true, "96f50023b8ed14bb84e1bef42bc879847c9568c1c3219ce9c595af18107b37de"), looks := true }, kinds := [], alts := [], laidByText := true, laidKinds := [.data, .pinned], laidTests := true, laidLooks := .later }
def FnMovesMadeOfAllUptoCardSaid : Prop := Claim7.holds Tryd.pinned (.plain (OpenSpec.upto fnMovesMadeOfAllSpec)) fnMovesMadeOfAllUptoCard
end Rows
end Go.Proofs.YtmdipjoogcdngaaDoor
