/-
  DERIVED. GIVEN WITH THE SEED: THE CARDS: each row of YtaidpalamhmghaaDoorRows.lean that lists a variable, with what it lists TIED to the program's text (the seventh form; the later family's looks); each row that meets fmt, with fmt's text TOLD by the authors' own Lean function (tested against real Go, not proved from fmt's source: count such statements apart). THE CARD IS WHAT COUNTS. Prove the row's statement (the work); the ties are given (YtaidpalamhmghaaDoorTie.lean); close each card by the builder's one call (the guide's Derived/Test/ToyasCard.lean, 'card_holds'). Laid BY PROGRAM, IN A SANDBOX (cutbox-door.mjs). By AI agents, Wed Nov 11 2026. No macro, syntax, notation, axiom, sorry.
-/
import Derived.Test.YtaidpalamhmghaaDoorRows
import GoSem.ClaimSeven
namespace Go.Proofs.YtaidpalamhmghaaDoor
namespace Rows

/-- THE TIED CARD OF 'laws.FnExactParsePuzzle'. -/
def fnExactParsePuzzleCard : Claim7 := { stood := { row := fnExactParsePuzzleRow, standIns := [], harness := (true, "6f5323f6e2bf22c33a4a3af880374edf321ae875ff57dd983bdd99915c66aacb"), looks := true }, kinds := [], alts := [], laidByText := true, laidKinds := [.data, .data, .data, .data, .sentinel, .sentinel, .pinned], laidTests := true, laidLooks := .later }
def FnExactParsePuzzleCardSaid : Prop := Claim7.holds Tryd.pinned (.plain (OpenSpec.ofChange fnExactParsePuzzleSpec)) fnExactParsePuzzleCard

/-- THE TIED CARD OF 'laws.FnRulesMoveOfAll'. -/
def fnRulesMoveOfAllCard : Claim7 := { stood := { row := fnRulesMoveOfAllRow, standIns := [], harness := (true, "6f5323f6e2bf22c33a4a3af880374edf321ae875ff57dd983bdd99915c66aacb"), looks := true }, kinds := [], alts := [], laidByText := true, laidKinds := [.data, .pinned], laidTests := true, laidLooks := .later }
def FnRulesMoveOfAllCardSaid : Prop := Claim7.holds Tryd.pinned (.plain (OpenSpec.ofChange fnRulesMoveOfAllSpec)) fnRulesMoveOfAllCard

/-- THE TIED CARD OF 'laws.FnExactCrossBoard'. -/
def fnExactCrossBoardCard : Claim7 := { stood := { row := fnExactCrossBoardRow, standIns := [], harness := (true, "6f5323f6e2bf22c33a4a3af880374edf321ae875ff57dd983bdd99915c66aacb"), looks := true }, kinds := [], alts := [], laidByText := true, laidKinds := [.data, .pinned], laidTests := true, laidLooks := .later }
def FnExactCrossBoardCardSaid : Prop := Claim7.holds Tryd.pinned (.plain (OpenSpec.ofChange fnExactCrossBoardSpec)) fnExactCrossBoardCard

/-- THE TIED CARD OF 'laws.FnExactColumnOfBoard'. -/
def fnExactColumnOfBoardCard : Claim7 := { stood := { row := fnExactColumnOfBoardRow, standIns := [], harness := (true, "6f5323f6e2bf22c33a4a3af880374edf321ae875ff57dd983bdd99915c66aacb"), looks := true }, kinds := [], alts := [], laidByText := true, laidKinds := [.data, .pinned], laidTests := true, laidLooks := .later }
def FnExactColumnOfBoardCardSaid : Prop := Claim7.holds Tryd.pinned (.plain (OpenSpec.ofChange fnExactColumnOfBoardSpec)) fnExactColumnOfBoardCard

/-- THE TIED CARD OF 'laws.FnMovesMadeOfAll'. -/
def fnMovesMadeOfAllCard : Claim7 := { stood := { row := fnMovesMadeOfAllRow, standIns := [], harness := (true, "6f5323f6e2bf22c33a4a3af880374edf321ae875ff57dd983bdd99915c66aacb"), looks := true }, kinds := [], alts := [], laidByText := true, laidKinds := [.data, .pinned], laidTests := true, laidLooks := .later }
def FnMovesMadeOfAllCardSaid : Prop := Claim7.holds Tryd.pinned (.plain (OpenSpec.ofChange fnMovesMadeOfAllSpec)) fnMovesMadeOfAllCard

/-- THE SECOND FORM's CARD OF 'laws.FnExactParsePuzzle'. -/
def fnExactParsePuzzleUptoCard : Claim7 := { stood := { row := fnExactParsePuzzleUptoRow, standIns := [], harness := (true, "6f5323f6e2bf22c33a4a3af880374edf321ae875ff57dd983bdd99915c66aacb"), looks := true }, kinds := [], alts := [], laidByText := true, laidKinds := [.data, .data, .data, .data, .sentinel, .sentinel, .pinned], laidTests := true, laidLooks := .later }
def FnExactParsePuzzleUptoCardSaid : Prop := Claim7.holds Tryd.pinned (.plain (OpenSpec.upto fnExactParsePuzzleSpec)) fnExactParsePuzzleUptoCard

/-- THE SECOND FORM's CARD OF 'laws.FnRulesMoveOfAll'. -/
def fnRulesMoveOfAllUptoCard : Claim7 := { stood := { row := fnRulesMoveOfAllUptoRow, standIns := [], harness := (true, "6f5323f6e2bf22c33a4a3af880374edf321ae875ff57dd983bdd99915c66aacb"), looks := true }, kinds := [], alts := [], laidByText := true, laidKinds := [.data, .pinned], laidTests := true, laidLooks := .later }
def FnRulesMoveOfAllUptoCardSaid : Prop := Claim7.holds Tryd.pinned (.plain (OpenSpec.upto fnRulesMoveOfAllSpec)) fnRulesMoveOfAllUptoCard

/-- THE SECOND FORM's CARD OF 'laws.FnExactCrossBoard'. -/
def fnExactCrossBoardUptoCard : Claim7 := { stood := { row := fnExactCrossBoardUptoRow, standIns := [], harness := (true, "6f5323f6e2bf22c33a4a3af880374edf321ae875ff57dd983bdd99915c66aacb"), looks := true }, kinds := [], alts := [], laidByText := true, laidKinds := [.data, .pinned], laidTests := true, laidLooks := .later }
def FnExactCrossBoardUptoCardSaid : Prop := Claim7.holds Tryd.pinned (.plain (OpenSpec.upto fnExactCrossBoardSpec)) fnExactCrossBoardUptoCard

/-- THE SECOND FORM's CARD OF 'laws.FnExactColumnOfBoard'. -/
def fnExactColumnOfBoardUptoCard : Claim7 := { stood := { row := fnExactColumnOfBoardUptoRow, standIns := [], harness := (true, "6f5323f6e2bf22c33a4a3af880374edf321ae875ff57dd983bdd99915c66aacb"), looks := true }, kinds := [], alts := [], laidByText := true, laidKinds := [.data, .pinned], laidTests := true, laidLooks := .later }
def FnExactColumnOfBoardUptoCardSaid : Prop := Claim7.holds Tryd.pinned (.plain (OpenSpec.upto fnExactColumnOfBoardSpec)) fnExactColumnOfBoardUptoCard

/-- THE SECOND FORM's CARD OF 'laws.FnMovesMadeOfAll'. -/
def fnMovesMadeOfAllUptoCard : Claim7 := { stood := { row := fnMovesMadeOfAllUptoRow, standIns := [], harness := (true, "6f5323f6e2bf22c33a4a3af880374edf321ae875ff57dd983bdd99915c66aacb"), looks := true }, kinds := [], alts := [], laidByText := true, laidKinds := [.data, .pinned], laidTests := true, laidLooks := .later }
def FnMovesMadeOfAllUptoCardSaid : Prop := Claim7.holds Tryd.pinned (.plain (OpenSpec.upto fnMovesMadeOfAllSpec)) fnMovesMadeOfAllUptoCard
end Rows
end Go.Proofs.YtaidpalamhmghaaDoor
