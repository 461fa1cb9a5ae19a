/-
  DERIVED. GIVEN WITH THE SEED: THE CARDS: each row of YtblihaicbhdbdaaDoorRows.lean that lists a variable, with what it lists TIED to the program's text (the seventh form; the later family's looks); each row that meets fmt, with fmt's text TOLD by the authors' own Lean function (tested against real Go, not proved from fmt's source: count such statements apart). THE CARD IS WHAT COUNTS. Prove the row's statement (the work); the ties are given (YtblihaicbhdbdaaDoorTie.lean); close each card by the builder's one call (the guide's Derived/Test/ToyasCard.lean, 'card_holds'). Laid BY PROGRAM, IN A SANDBOX (cutbox-door.mjs). By AI agents, Wed Nov 11 2026. No macro, syntax, notation, axiom, sorry.
-/
import Derived.Test.YtblihaicbhdbdaaDoorRows
import GoSem.ClaimSeven
namespace Go.Proofs.YtblihaicbhdbdaaDoor
namespace Rows

/-- THE TIED CARD OF 'laws.FnExactWordBetween'. -/
def fnExactWordBetweenCard : Claim7 := { stood := { row := fnExactWordBetweenRow, standIns := [], harness := (true, "4f55d2f864a6838f78a8dcf42ff9294b692f6b944f47f4cfdfa9cbff4e39d25b"), looks := false }, kinds := [], alts := [], laidByText := true, laidKinds := [.data, .pinned], laidTests := true, laidLooks := .later }
def FnExactWordBetweenCardSaid : Prop := Claim7.holds Tryd.pinned (.plain (OpenSpec.ofChange fnExactWordBetweenSpec)) fnExactWordBetweenCard

/-- THE TIED CARD OF 'laws.FnExactLongestWord'. -/
def fnExactLongestWordCard : Claim7 := { stood := { row := fnExactLongestWordRow, standIns := [], harness := (true, "4f55d2f864a6838f78a8dcf42ff9294b692f6b944f47f4cfdfa9cbff4e39d25b"), looks := false }, kinds := [], alts := [], laidByText := true, laidKinds := [.data, .pinned], laidTests := true, laidLooks := .later }
def FnExactLongestWordCardSaid : Prop := Claim7.holds Tryd.pinned (.plain (OpenSpec.ofChange fnExactLongestWordSpec)) fnExactLongestWordCard

/-- THE TIED CARD OF 'laws.FnExactFirstPlay'. -/
def fnExactFirstPlayCard : Claim7 := { stood := { row := fnExactFirstPlayRow, standIns := [], harness := (true, "4f55d2f864a6838f78a8dcf42ff9294b692f6b944f47f4cfdfa9cbff4e39d25b"), looks := false }, kinds := [], alts := [], laidByText := true, laidKinds := [.data, .pinned], laidTests := true, laidLooks := .later }
def FnExactFirstPlayCardSaid : Prop := Claim7.holds Tryd.pinned (.plain (OpenSpec.ofChange fnExactFirstPlaySpec)) fnExactFirstPlayCard

/-- THE TIED CARD OF 'laws.FnExactCountAllPlays'. -/
def fnExactCountAllPlaysCard : Claim7 := { stood := { row := fnExactCountAllPlaysRow, standIns := [], harness := (true, "4f55d2f864a6838f78a8dcf42ff9294b692f6b944f47f4cfdfa9cbff4e39d25b"), looks := false }, kinds := [], alts := [], laidByText := true, laidKinds := [.data, .pinned], laidTests := true, laidLooks := .later }
def FnExactCountAllPlaysCardSaid : Prop := Claim7.holds Tryd.pinned (.plain (OpenSpec.ofChange fnExactCountAllPlaysSpec)) fnExactCountAllPlaysCard

/-- THE TIED CARD OF 'laws.FnExactLongestGame'. -/
def fnExactLongestGameCard : Claim7 := { stood := { row := fnExactLongestGameRow, standIns := [], harness := (true, "4f55d2f864a6838f78a8dcf42ff9294b692f6b944f47f4cfdfa9cbff4e39d25b"), looks := false }, kinds := [], alts := [], laidByText := true, laidKinds := [.data, .pinned], laidTests := true, laidLooks := .later }
def FnExactLongestGameCardSaid : Prop := Claim7.holds Tryd.pinned (.plain (OpenSpec.ofChange fnExactLongestGameSpec)) fnExactLongestGameCard

/-- THE TIED CARD OF 'laws.FnExactShortestGame'. -/
def fnExactShortestGameCard : Claim7 := { stood := { row := fnExactShortestGameRow, standIns := [], harness := (true, "4f55d2f864a6838f78a8dcf42ff9294b692f6b944f47f4cfdfa9cbff4e39d25b"), looks := false }, kinds := [], alts := [], laidByText := true, laidKinds := [.data, .pinned], laidTests := true, laidLooks := .later }
def FnExactShortestGameCardSaid : Prop := Claim7.holds Tryd.pinned (.plain (OpenSpec.ofChange fnExactShortestGameSpec)) fnExactShortestGameCard

/-- THE TIED CARD OF 'laws.FnExactCountGames'. -/
def fnExactCountGamesCard : Claim7 := { stood := { row := fnExactCountGamesRow, standIns := [], harness := (true, "4f55d2f864a6838f78a8dcf42ff9294b692f6b944f47f4cfdfa9cbff4e39d25b"), looks := false }, kinds := [], alts := [], laidByText := true, laidKinds := [.data, .pinned], laidTests := true, laidLooks := .later }
def FnExactCountGamesCardSaid : Prop := Claim7.holds Tryd.pinned (.plain (OpenSpec.ofChange fnExactCountGamesSpec)) fnExactCountGamesCard

/-- THE SECOND FORM's CARD OF 'laws.FnExactWordBetween'. -/
def fnExactWordBetweenUptoCard : Claim7 := { stood := { row := fnExactWordBetweenUptoRow, standIns := [], harness := (true, "4f55d2f864a6838f78a8dcf42ff9294b692f6b944f47f4cfdfa9cbff4e39d25b"), looks := false }, kinds := [], alts := [], laidByText := true, laidKinds := [.data, .pinned], laidTests := true, laidLooks := .later }
def FnExactWordBetweenUptoCardSaid : Prop := Claim7.holds Tryd.pinned (.plain (OpenSpec.upto fnExactWordBetweenSpec)) fnExactWordBetweenUptoCard

/-- THE SECOND FORM's CARD OF 'laws.FnExactLongestWord'. -/
def fnExactLongestWordUptoCard : Claim7 := { stood := { row := fnExactLongestWordUptoRow, standIns := [], harness := (true, "4f55d2f864a6838f78a8dcf42ff9294b692f6b944f47f4cfdfa9cbff4e39d25b"), looks := false }, kinds := [], alts := [], laidByText := true, laidKinds := [.data, .pinned], laidTests := true, laidLooks := .later }
def FnExactLongestWordUptoCardSaid : Prop := Claim7.holds Tryd.pinned (.plain (OpenSpec.upto fnExactLongestWordSpec)) fnExactLongestWordUptoCard

/-- THE SECOND FORM's CARD OF 'laws.FnExactFirstPlay'. -/
def fnExactFirstPlayUptoCard : Claim7 := { stood := { row := fnExactFirstPlayUptoRow, standIns := [], harness := (true, "4f55d2f864a6838f78a8dcf42ff9294b692f6b944f47f4cfdfa9cbff4e39d25b"), looks := false }, kinds := [], alts := [], laidByText := true, laidKinds := [.data, .pinned], laidTests := true, laidLooks := .later }
def FnExactFirstPlayUptoCardSaid : Prop := Claim7.holds Tryd.pinned (.plain (OpenSpec.upto fnExactFirstPlaySpec)) fnExactFirstPlayUptoCard

/-- THE SECOND FORM's CARD OF 'laws.FnExactCountAllPlays'. -/
def fnExactCountAllPlaysUptoCard : Claim7 := { stood := { row := fnExactCountAllPlaysUptoRow, standIns := [], harness := (true, "4f55d2f864a6838f78a8dcf42ff9294b692f6b944f47f4cfdfa9cbff4e39d25b"), looks := false }, kinds := [], alts := [], laidByText := true, laidKinds := [.data, .pinned], laidTests := true, laidLooks := .later }
def FnExactCountAllPlaysUptoCardSaid : Prop := Claim7.holds Tryd.pinned (.plain (OpenSpec.upto fnExactCountAllPlaysSpec)) fnExactCountAllPlaysUptoCard

/-- THE SECOND FORM's CARD OF 'laws.FnExactLongestGame'. -/
def fnExactLongestGameUptoCard : Claim7 := { stood := { row := fnExactLongestGameUptoRow, standIns := [], harness := (true, "4f55d2f864a6838f78a8dcf42ff9294b692f6b944f47f4cfdfa9cbff4e39d25b"), looks := false }, kinds := [], alts := [], laidByText := true, laidKinds := [.data, .pinned], laidTests := true, laidLooks := .later }
def FnExactLongestGameUptoCardSaid : Prop := Claim7.holds Tryd.pinned (.plain (OpenSpec.upto fnExactLongestGameSpec)) fnExactLongestGameUptoCard

/-- THE SECOND FORM's CARD OF 'laws.FnExactShortestGame'. -/
def fnExactShortestGameUptoCard : Claim7 := { stood := { row := fnExactShortestGameUptoRow, standIns := [], harness := (true, "4f55d2f864a6838f78a8dcf42ff9294b692f6b944f47f4cfdfa9cbff4e39d25b"), looks := false }, kinds := [], alts := [], laidByText := true, laidKinds := [.data, .pinned], laidTests := true, laidLooks := .later }
def FnExactShortestGameUptoCardSaid : Prop := Claim7.holds Tryd.pinned (.plain (OpenSpec.upto fnExactShortestGameSpec)) fnExactShortestGameUptoCard

/-- THE SECOND FORM's CARD OF 'laws.FnExactCountGames'. -/
def fnExactCountGamesUptoCard : Claim7 := { stood := { row := fnExactCountGamesUptoRow, standIns := [], harness := (true, "4f55d2f864a6838f78a8dcf42ff9294b692f6b944f47f4cfdfa9cbff4e39d25b"), looks := false }, kinds := [], alts := [], laidByText := true, laidKinds := [.data, .pinned], laidTests := true, laidLooks := .later }
def FnExactCountGamesUptoCardSaid : Prop := Claim7.holds Tryd.pinned (.plain (OpenSpec.upto fnExactCountGamesSpec)) fnExactCountGamesUptoCard
end Rows
end Go.Proofs.YtblihaicbhdbdaaDoor
