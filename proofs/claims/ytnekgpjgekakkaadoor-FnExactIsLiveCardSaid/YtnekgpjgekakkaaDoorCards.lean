/-
  DERIVED. GIVEN WITH THE SEED: THE CARDS: each row of YtnekgpjgekakkaaDoorRows.lean that lists a variable, with what it lists TIED to the program's text (the seventh form; the later family's looks); each row that meets fmt, with fmt's text TOLD by the authors' own Lean function (tested against real Go, not proved from fmt's source: count such statements apart). THE CARD IS WHAT COUNTS. Prove the row's statement (the work); the ties are given (YtnekgpjgekakkaaDoorTie.lean); close each card by the builder's one call (the guide's Derived/Test/ToyasCard.lean, 'card_holds'). Laid BY PROGRAM, IN A SANDBOX (cutbox-door.mjs). By AI agents, Wed Nov 11 2026. No macro, syntax, notation, axiom, sorry.
-/
import Derived.Test.YtnekgpjgekakkaaDoorRows
import GoSem.ClaimSeven
namespace Go.Proofs.YtnekgpjgekakkaaDoor
namespace Rows

/-- THE TIED CARD OF 'laws.FnExactIsLive'. -/
def fnExactIsLiveCard : Claim7 := { stood := { row := fnExactIsLiveRow, standIns := [], harness := (true, "2448e99198114361271ff6df573a3914d7923d5d4e84e93f65081410314812df"), looks := false }, kinds := [], alts := [], laidByText := true, laidKinds := [.data, .pinned], laidTests := true, laidLooks := .later }
def FnExactIsLiveCardSaid : Prop := Claim7.holds Tryd.pinned (.plain (OpenSpec.ofChange fnExactIsLiveSpec)) fnExactIsLiveCard

/-- THE TIED CARD OF 'laws.FnExactCanReach'. -/
def fnExactCanReachCard : Claim7 := { stood := { row := fnExactCanReachRow, standIns := [], harness := (true, "2448e99198114361271ff6df573a3914d7923d5d4e84e93f65081410314812df"), looks := false }, kinds := [], alts := [], laidByText := true, laidKinds := [.data, .pinned], laidTests := true, laidLooks := .later }
def FnExactCanReachCardSaid : Prop := Claim7.holds Tryd.pinned (.plain (OpenSpec.ofChange fnExactCanReachSpec)) fnExactCanReachCard

/-- THE TIED CARD OF 'laws.FnExactMovesBetween'. -/
def fnExactMovesBetweenCard : Claim7 := { stood := { row := fnExactMovesBetweenRow, standIns := [], harness := (true, "2448e99198114361271ff6df573a3914d7923d5d4e84e93f65081410314812df"), looks := false }, kinds := [], alts := [], laidByText := true, laidKinds := [.data, .pinned], laidTests := true, laidLooks := .later }
def FnExactMovesBetweenCardSaid : Prop := Claim7.holds Tryd.pinned (.plain (OpenSpec.ofChange fnExactMovesBetweenSpec)) fnExactMovesBetweenCard

/-- THE TIED CARD OF 'laws.FnExactCanFinish'. -/
def fnExactCanFinishCard : Claim7 := { stood := { row := fnExactCanFinishRow, standIns := [], harness := (true, "2448e99198114361271ff6df573a3914d7923d5d4e84e93f65081410314812df"), looks := false }, kinds := [], alts := [], laidByText := true, laidKinds := [.data, .pinned], laidTests := true, laidLooks := .later }
def FnExactCanFinishCardSaid : Prop := Claim7.holds Tryd.pinned (.plain (OpenSpec.ofChange fnExactCanFinishSpec)) fnExactCanFinishCard

/-- THE TIED CARD OF 'laws.FnExactLongestPlay'. -/
def fnExactLongestPlayCard : Claim7 := { stood := { row := fnExactLongestPlayRow, standIns := [], harness := (true, "2448e99198114361271ff6df573a3914d7923d5d4e84e93f65081410314812df"), looks := false }, kinds := [], alts := [], laidByText := true, laidKinds := [.data, .pinned], laidTests := true, laidLooks := .later }
def FnExactLongestPlayCardSaid : Prop := Claim7.holds Tryd.pinned (.plain (OpenSpec.ofChange fnExactLongestPlaySpec)) fnExactLongestPlayCard

/-- THE TIED CARD OF 'laws.FnExactShortestStop'. -/
def fnExactShortestStopCard : Claim7 := { stood := { row := fnExactShortestStopRow, standIns := [], harness := (true, "2448e99198114361271ff6df573a3914d7923d5d4e84e93f65081410314812df"), looks := false }, kinds := [], alts := [], laidByText := true, laidKinds := [.data, .pinned], laidTests := true, laidLooks := .later }
def FnExactShortestStopCardSaid : Prop := Claim7.holds Tryd.pinned (.plain (OpenSpec.ofChange fnExactShortestStopSpec)) fnExactShortestStopCard

/-- THE TIED CARD OF 'laws.FnExactCountPlays'. -/
def fnExactCountPlaysCard : Claim7 := { stood := { row := fnExactCountPlaysRow, standIns := [], harness := (true, "2448e99198114361271ff6df573a3914d7923d5d4e84e93f65081410314812df"), looks := false }, kinds := [], alts := [], laidByText := true, laidKinds := [.data, .pinned], laidTests := true, laidLooks := .later }
def FnExactCountPlaysCardSaid : Prop := Claim7.holds Tryd.pinned (.plain (OpenSpec.ofChange fnExactCountPlaysSpec)) fnExactCountPlaysCard

/-- THE TIED CARD OF 'laws.FnExactCountAllPlays'. -/
def fnExactCountAllPlaysCard : Claim7 := { stood := { row := fnExactCountAllPlaysRow, standIns := [], harness := (true, "2448e99198114361271ff6df573a3914d7923d5d4e84e93f65081410314812df"), looks := false }, kinds := [], alts := [], laidByText := true, laidKinds := [.data, .pinned], laidTests := true, laidLooks := .later }
def FnExactCountAllPlaysCardSaid : Prop := Claim7.holds Tryd.pinned (.plain (OpenSpec.ofChange fnExactCountAllPlaysSpec)) fnExactCountAllPlaysCard

/-- THE TIED CARD OF 'laws.FnExactFirstPlay'. -/
def fnExactFirstPlayCard : Claim7 := { stood := { row := fnExactFirstPlayRow, standIns := [], harness := (true, "2448e99198114361271ff6df573a3914d7923d5d4e84e93f65081410314812df"), looks := false }, kinds := [], alts := [], laidByText := true, laidKinds := [.data, .pinned], laidTests := true, laidLooks := .later }
def FnExactFirstPlayCardSaid : Prop := Claim7.holds Tryd.pinned (.plain (OpenSpec.ofChange fnExactFirstPlaySpec)) fnExactFirstPlayCard

/-- THE TIED CARD OF 'laws.FnExactWordBetween'. -/
def fnExactWordBetweenCard : Claim7 := { stood := { row := fnExactWordBetweenRow, standIns := [], harness := (true, "2448e99198114361271ff6df573a3914d7923d5d4e84e93f65081410314812df"), looks := false }, kinds := [], alts := [], laidByText := true, laidKinds := [.data, .pinned], laidTests := true, laidLooks := .later }
def FnExactWordBetweenCardSaid : Prop := Claim7.holds Tryd.pinned (.plain (OpenSpec.ofChange fnExactWordBetweenSpec)) fnExactWordBetweenCard

/-- THE TIED CARD OF 'laws.FnExactLongestWord'. -/
def fnExactLongestWordCard : Claim7 := { stood := { row := fnExactLongestWordRow, standIns := [], harness := (true, "2448e99198114361271ff6df573a3914d7923d5d4e84e93f65081410314812df"), looks := false }, kinds := [], alts := [], laidByText := true, laidKinds := [.data, .pinned], laidTests := true, laidLooks := .later }
def FnExactLongestWordCardSaid : Prop := Claim7.holds Tryd.pinned (.plain (OpenSpec.ofChange fnExactLongestWordSpec)) fnExactLongestWordCard

/-- THE SECOND FORM's CARD OF 'laws.FnExactIsLive'. -/
def fnExactIsLiveUptoCard : Claim7 := { stood := { row := fnExactIsLiveUptoRow, standIns := [], harness := (true, "2448e99198114361271ff6df573a3914d7923d5d4e84e93f65081410314812df"), looks := false }, kinds := [], alts := [], laidByText := true, laidKinds := [.data, .pinned], laidTests := true, laidLooks := .later }
def FnExactIsLiveUptoCardSaid : Prop := Claim7.holds Tryd.pinned (.plain (OpenSpec.upto fnExactIsLiveSpec)) fnExactIsLiveUptoCard

/-- THE SECOND FORM's CARD OF 'laws.FnExactCanReach'. -/
def fnExactCanReachUptoCard : Claim7 := { stood := { row := fnExactCanReachUptoRow, standIns := [], harness := (true, "2448e99198114361271ff6df573a3914d7923d5d4e84e93f65081410314812df"), looks := false }, kinds := [], alts := [], laidByText := true, laidKinds := [.data, .pinned], laidTests := true, laidLooks := .later }
def FnExactCanReachUptoCardSaid : Prop := Claim7.holds Tryd.pinned (.plain (OpenSpec.upto fnExactCanReachSpec)) fnExactCanReachUptoCard

/-- THE SECOND FORM's CARD OF 'laws.FnExactMovesBetween'. -/
def fnExactMovesBetweenUptoCard : Claim7 := { stood := { row := fnExactMovesBetweenUptoRow, standIns := [], harness := (true, "2448e99198114361271ff6df573a3914d7923d5d4e84e93f65081410314812df"), looks := false }, kinds := [], alts := [], laidByText := true, laidKinds := [.data, .pinned], laidTests := true, laidLooks := .later }
def FnExactMovesBetweenUptoCardSaid : Prop := Claim7.holds Tryd.pinned (.plain (OpenSpec.upto fnExactMovesBetweenSpec)) fnExactMovesBetweenUptoCard

/-- THE SECOND FORM's CARD OF 'laws.FnExactCanFinish'. -/
def fnExactCanFinishUptoCard : Claim7 := { stood := { row := fnExactCanFinishUptoRow, standIns := [], harness := (true, "2448e99198114361271ff6df573a3914d7923d5d4e84e93f65081410314812df"), looks := false }, kinds := [], alts := [], laidByText := true, laidKinds := [.data, .pinned], laidTests := true, laidLooks := .later }
def FnExactCanFinishUptoCardSaid : Prop := Claim7.holds Tryd.pinned (.plain (OpenSpec.upto fnExactCanFinishSpec)) fnExactCanFinishUptoCard

/-- THE SECOND FORM's CARD OF 'laws.FnExactLongestPlay'. -/
def fnExactLongestPlayUptoCard : Claim7 := { stood := { row := fnExactLongestPlayUptoRow, standIns := [], harness := (true, "2448e99198114361271ff6df573a3914d7923d5d4e84e93f65081410314812df"), looks := false }, kinds := [], alts := [], laidByText := true, laidKinds := [.data, .pinned], laidTests := true, laidLooks := .later }
def FnExactLongestPlayUptoCardSaid : Prop := Claim7.holds Tryd.pinned (.plain (OpenSpec.upto fnExactLongestPlaySpec)) fnExactLongestPlayUptoCard

/-- THE SECOND FORM's CARD OF 'laws.FnExactShortestStop'. -/
def fnExactShortestStopUptoCard : Claim7 := { stood := { row := fnExactShortestStopUptoRow, standIns := [], harness := (true, "2448e99198114361271ff6df573a3914d7923d5d4e84e93f65081410314812df"), looks := false }, kinds := [], alts := [], laidByText := true, laidKinds := [.data, .pinned], laidTests := true, laidLooks := .later }
def FnExactShortestStopUptoCardSaid : Prop := Claim7.holds Tryd.pinned (.plain (OpenSpec.upto fnExactShortestStopSpec)) fnExactShortestStopUptoCard

/-- THE SECOND FORM's CARD OF 'laws.FnExactCountPlays'. -/
def fnExactCountPlaysUptoCard : Claim7 := { stood := { row := fnExactCountPlaysUptoRow, standIns := [], harness := (true, "2448e99198114361271ff6df573a3914d7923d5d4e84e93f65081410314812df"), looks := false }, kinds := [], alts := [], laidByText := true, laidKinds := [.data, .pinned], laidTests := true, laidLooks := .later }
def FnExactCountPlaysUptoCardSaid : Prop := Claim7.holds Tryd.pinned (.plain (OpenSpec.upto fnExactCountPlaysSpec)) fnExactCountPlaysUptoCard

/-- THE SECOND FORM's CARD OF 'laws.FnExactCountAllPlays'. -/
def fnExactCountAllPlaysUptoCard : Claim7 := { stood := { row := fnExactCountAllPlaysUptoRow, standIns := [], harness := (true, "2448e99198114361271ff6df573a3914d7923d5d4e84e93f65081410314812df"), looks := false }, kinds := [], alts := [], laidByText := true, laidKinds := [.data, .pinned], laidTests := true, laidLooks := .later }
def FnExactCountAllPlaysUptoCardSaid : Prop := Claim7.holds Tryd.pinned (.plain (OpenSpec.upto fnExactCountAllPlaysSpec)) fnExactCountAllPlaysUptoCard

/-- THE SECOND FORM's CARD OF 'laws.FnExactFirstPlay'. -/
def fnExactFirstPlayUptoCard : Claim7 := { stood := { row := fnExactFirstPlayUptoRow, standIns := [], harness := (true, "2448e99198114361271ff6df573a3914d7923d5d4e84e93f65081410314812df"), looks := false }, kinds := [], alts := [], laidByText := true, laidKinds := [.data, .pinned], laidTests := true, laidLooks := .later }
def FnExactFirstPlayUptoCardSaid : Prop := Claim7.holds Tryd.pinned (.plain (OpenSpec.upto fnExactFirstPlaySpec)) fnExactFirstPlayUptoCard

/-- THE SECOND FORM's CARD OF 'laws.FnExactWordBetween'. -/
def fnExactWordBetweenUptoCard : Claim7 := { stood := { row := fnExactWordBetweenUptoRow, standIns := [], harness := (true, "2448e99198114361271ff6df573a3914d7923d5d4e84e93f65081410314812df"), looks := false }, kinds := [], alts := [], laidByText := true, laidKinds := [.data, .pinned], laidTests := true, laidLooks := .later }
def FnExactWordBetweenUptoCardSaid : Prop := Claim7.holds Tryd.pinned (.plain (OpenSpec.upto fnExactWordBetweenSpec)) fnExactWordBetweenUptoCard

/-- THE SECOND FORM's CARD OF 'laws.FnExactLongestWord'. -/
def fnExactLongestWordUptoCard : Claim7 := { stood := { row := fnExactLongestWordUptoRow, standIns := [], harness := (true, "2448e99198114361271ff6df573a3914d7923d5d4e84e93f65081410314812df"), looks := false }, kinds := [], alts := [], laidByText := true, laidKinds := [.data, .pinned], laidTests := true, laidLooks := .later }
def FnExactLongestWordUptoCardSaid : Prop := Claim7.holds Tryd.pinned (.plain (OpenSpec.upto fnExactLongestWordSpec)) fnExactLongestWordUptoCard
end Rows
end Go.Proofs.YtnekgpjgekakkaaDoor
