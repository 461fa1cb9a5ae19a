/-
  NARROWER THAN 'FOR EVERY INPUT', by the rows' own cells (each row's printed sentence says how): FnExactKindsOfWord: laid · FnExactFreeMoves: laid · FnExactWinsMoving: laid · FnExactOutcomeOf: laid · FnExactIsNothing: laid · FnExactWinsSum: laid · FnExactOutcomeOfSum: laid · FnExactCompareGames: laid · FnExactBestMoves: laid · FnExactGameMove: laid · FnExactGamePlay: laid.
  DERIVED. THE GIVEN ROWS OF THIS SEAT. 11 by the template 'for every input the law returns true; each argument reads behind the call as it read before'; 0 by the template 'total and deterministic' (their statements: YtjpabjmcooiflaaDoorTotals.lean).
  GIVEN WITH THE SEED: the statements are not yours to turn. If you find one false, say at which input.
  Laid BY PROGRAM, IN A SANDBOX (cutbox-rows.mjs): the forced cells as the released guide's own fill.sh prints them over the translation 71fe110a361d2f89… (all of the seat's roots in one cut). By AI agents, Wed Nov 11 2026. No macro, syntax, notation, axiom, sorry.
-/
import Derived.Test.YtjpabjmcooiflaaDoorChecked
import GoSem.PinnedTables
import GoSem.Claim
import GoSem.ClaimJoined
import GoSem.ClaimMapViews
import Derived.JoinedTies
import Derived.KernelRfl
namespace Go.Proofs.YtjpabjmcooiflaaDoor
/- THE CELL 'sum', in the pinned program and in every row, IS THE sha256 OF THE DUMP (.gsa) THAT YtjpabjmcooiflaaDoorProg.lean LOADS. Nothing in Lean hashes anything: it is a label: what it is worth is what the hold of that sum in a sandbox is worth. -/
noncomputable def Tryd.pinned : Pinned := { name := "ytjpabjmcooiflaadoor", sum := "71fe110a361d2f89263c328e9f5efd57df114822c4ea1e388cb838e466ca560f", checked := Tryd.checked }
namespace Rows
def none {H : Type} : Left H := { results := [], args := [] }

/- WHAT THE LISTED PACKAGE-LEVEL VARIABLES READ AS WHEN THE CALL BEGINS. Each datum BY PROGRAM (the guide's laid-datum.mjs) off the statement by which the dump's own 'gosem.cut.vars' lays the variable. In a bare row this is a premise. The card (YtjpabjmcooiflaaDoorCards.lean) ties it to the program's text. -/
def laid_unicode_utf8_acceptRanges {H : Type} : DataW H := .agg [.agg [.lit (.int .u8 128), .lit (.int .u8 191)], .agg [.lit (.int .u8 160), .lit (.int .u8 191)], .agg [.lit (.int .u8 128), .lit (.int .u8 159)], .agg [.lit (.int .u8 144), .lit (.int .u8 191)], .agg [.lit (.int .u8 128), .lit (.int .u8 143)], .agg [.lit (.int .u8 0), .lit (.int .u8 0)], .agg [.lit (.int .u8 0), .lit (.int .u8 0)], .agg [.lit (.int .u8 0), .lit (.int .u8 0)], .agg [.lit (.int .u8 0), .lit (.int .u8 0)], .agg [.lit (.int .u8 0), .lit (.int .u8 0)], .agg [.lit (.int .u8 0), .lit (.int .u8 0)], .agg [.lit (.int .u8 0), .lit (.int .u8 0)], .agg [.lit (.int .u8 0), .lit (.int .u8 0)], .agg [.lit (.int .u8 0), .lit (.int .u8 0)], .agg [.lit (.int .u8 0), .lit (.int .u8 0)], .agg [.lit (.int .u8 0), .lit (.int .u8 0)]]
/-- One of Go's own tables, pinned by name: the form's constant. -/
def laid_unicode_utf8_first : DataW Unit := Go.Pinned.utf8First

/-- 'laws.FnExactKindsOfWord': WHATEVER THE INPUT: true; the input reads as it did. -/
def fnExactKindsOfWordSpec : ChangeSpec := { name := "fnExactKindsOfWord", fn := fun _ => fun
  | [d1, d2] => { results := [.lit (.bool true)], args := [d1, d2] }
  | _ => none }
def fnExactKindsOfWordRow : OpenClaim := { program := "ytjpabjmcooiflaadoor", sum := "71fe110a361d2f89263c328e9f5efd57df114822c4ea1e388cb838e466ca560f", func := "loop.example/g01271/laws.FnExactKindsOfWord", spec := "fnExactKindsOfWord", inPlace := ["internal/bytealg.IndexByteString", "internal/bytealg.IndexString", "internal/bytealg.CountString"], named := ["unicode/utf8.first", "unicode/utf8.acceptRanges", "internal/bytealg.MaxLen"], apart := false, laid := [("unicode/utf8.acceptRanges", laid_unicode_utf8_acceptRanges), ("unicode/utf8.first", laid_unicode_utf8_first)] }
def FnExactKindsOfWordSaid : Prop := fnExactKindsOfWordRow.holds Tryd.pinned (OpenSpec.ofChange fnExactKindsOfWordSpec)

/-- ITS FALSE NEIGHBOUR: 'it returns false'. Refute it at one input. -/
def fnExactKindsOfWordWrong : ChangeSpec := { name := "fnExactKindsOfWord", fn := fun _ => fun
  | [d1, d2] => { results := [.lit (.bool false)], args := [d1, d2] }
  | _ => none }
def FnExactKindsOfWordWrongFalsely : Prop := fnExactKindsOfWordRow.holds Tryd.pinned (OpenSpec.ofChange fnExactKindsOfWordWrong)

/-- 'laws.FnExactFreeMoves': WHATEVER THE INPUT: true; the input reads as it did. -/
def fnExactFreeMovesSpec : ChangeSpec := { name := "fnExactFreeMoves", fn := fun _ => fun
  | [d] => { results := [.lit (.bool true)], args := [d] }
  | _ => none }
def fnExactFreeMovesRow : OpenClaim := { program := "ytjpabjmcooiflaadoor", sum := "71fe110a361d2f89263c328e9f5efd57df114822c4ea1e388cb838e466ca560f", func := "loop.example/g01271/laws.FnExactFreeMoves", spec := "fnExactFreeMoves", inPlace := ["internal/bytealg.IndexByteString", "internal/bytealg.IndexString"], unfollowed := true, recurses := true, named := ["unicode/utf8.first", "unicode/utf8.acceptRanges", "internal/bytealg.MaxLen"], apart := false, laid := [("unicode/utf8.acceptRanges", laid_unicode_utf8_acceptRanges), ("unicode/utf8.first", laid_unicode_utf8_first)] }
def FnExactFreeMovesSaid : Prop := fnExactFreeMovesRow.holds Tryd.pinned (OpenSpec.ofChange fnExactFreeMovesSpec)

/-- ITS FALSE NEIGHBOUR: 'it returns false'. Refute it at one input. -/
def fnExactFreeMovesWrong : ChangeSpec := { name := "fnExactFreeMoves", fn := fun _ => fun
  | [d] => { results := [.lit (.bool false)], args := [d] }
  | _ => none }
def FnExactFreeMovesWrongFalsely : Prop := fnExactFreeMovesRow.holds Tryd.pinned (OpenSpec.ofChange fnExactFreeMovesWrong)

/-- 'laws.FnExactWinsMoving': WHATEVER THE INPUT: true; the input reads as it did. -/
def fnExactWinsMovingSpec : ChangeSpec := { name := "fnExactWinsMoving", fn := fun _ => fun
  | [d1, d2] => { results := [.lit (.bool true)], args := [d1, d2] }
  | _ => none }
def fnExactWinsMovingRow : OpenClaim := { program := "ytjpabjmcooiflaadoor", sum := "71fe110a361d2f89263c328e9f5efd57df114822c4ea1e388cb838e466ca560f", func := "loop.example/g01271/laws.FnExactWinsMoving", spec := "fnExactWinsMoving", inPlace := ["internal/bytealg.IndexByteString", "internal/bytealg.IndexString", "internal/abi.NoEscape", "internal/bytealg.MakeNoZero"], unfollowed := true, recurses := true, named := ["unicode/utf8.first", "unicode/utf8.acceptRanges", "internal/bytealg.MaxLen"], apart := false, laid := [("unicode/utf8.acceptRanges", laid_unicode_utf8_acceptRanges), ("unicode/utf8.first", laid_unicode_utf8_first)] }
def FnExactWinsMovingSaid : Prop := fnExactWinsMovingRow.holds Tryd.pinned (OpenSpec.ofChange fnExactWinsMovingSpec)

/-- ITS FALSE NEIGHBOUR: 'it returns false'. Refute it at one input. -/
def fnExactWinsMovingWrong : ChangeSpec := { name := "fnExactWinsMoving", fn := fun _ => fun
  | [d1, d2] => { results := [.lit (.bool false)], args := [d1, d2] }
  | _ => none }
def FnExactWinsMovingWrongFalsely : Prop := fnExactWinsMovingRow.holds Tryd.pinned (OpenSpec.ofChange fnExactWinsMovingWrong)

/-- 'laws.FnExactOutcomeOf': WHATEVER THE INPUT: true; the input reads as it did. -/
def fnExactOutcomeOfSpec : ChangeSpec := { name := "fnExactOutcomeOf", fn := fun _ => fun
  | [d] => { results := [.lit (.bool true)], args := [d] }
  | _ => none }
def fnExactOutcomeOfRow : OpenClaim := { program := "ytjpabjmcooiflaadoor", sum := "71fe110a361d2f89263c328e9f5efd57df114822c4ea1e388cb838e466ca560f", func := "loop.example/g01271/laws.FnExactOutcomeOf", spec := "fnExactOutcomeOf", inPlace := ["internal/bytealg.IndexByteString", "internal/bytealg.IndexString", "internal/abi.NoEscape", "internal/bytealg.MakeNoZero"], unfollowed := true, recurses := true, named := ["unicode/utf8.first", "unicode/utf8.acceptRanges", "internal/bytealg.MaxLen"], apart := false, laid := [("unicode/utf8.acceptRanges", laid_unicode_utf8_acceptRanges), ("unicode/utf8.first", laid_unicode_utf8_first)] }
def FnExactOutcomeOfSaid : Prop := fnExactOutcomeOfRow.holds Tryd.pinned (OpenSpec.ofChange fnExactOutcomeOfSpec)

/-- ITS FALSE NEIGHBOUR: 'it returns false'. Refute it at one input. -/
def fnExactOutcomeOfWrong : ChangeSpec := { name := "fnExactOutcomeOf", fn := fun _ => fun
  | [d] => { results := [.lit (.bool false)], args := [d] }
  | _ => none }
def FnExactOutcomeOfWrongFalsely : Prop := fnExactOutcomeOfRow.holds Tryd.pinned (OpenSpec.ofChange fnExactOutcomeOfWrong)

/-- 'laws.FnExactIsNothing': WHATEVER THE INPUT: true; the input reads as it did. -/
def fnExactIsNothingSpec : ChangeSpec := { name := "fnExactIsNothing", fn := fun _ => fun
  | [d] => { results := [.lit (.bool true)], args := [d] }
  | _ => none }
def fnExactIsNothingRow : OpenClaim := { program := "ytjpabjmcooiflaadoor", sum := "71fe110a361d2f89263c328e9f5efd57df114822c4ea1e388cb838e466ca560f", func := "loop.example/g01271/laws.FnExactIsNothing", spec := "fnExactIsNothing", inPlace := ["internal/bytealg.IndexByteString", "internal/bytealg.IndexString", "internal/abi.NoEscape", "internal/bytealg.MakeNoZero"], unfollowed := true, recurses := true, named := ["unicode/utf8.first", "unicode/utf8.acceptRanges", "internal/bytealg.MaxLen"], apart := false, laid := [("unicode/utf8.acceptRanges", laid_unicode_utf8_acceptRanges), ("unicode/utf8.first", laid_unicode_utf8_first)] }
def FnExactIsNothingSaid : Prop := fnExactIsNothingRow.holds Tryd.pinned (OpenSpec.ofChange fnExactIsNothingSpec)

/-- ITS FALSE NEIGHBOUR: 'it returns false'. Refute it at one input. -/
def fnExactIsNothingWrong : ChangeSpec := { name := "fnExactIsNothing", fn := fun _ => fun
  | [d] => { results := [.lit (.bool false)], args := [d] }
  | _ => none }
def FnExactIsNothingWrongFalsely : Prop := fnExactIsNothingRow.holds Tryd.pinned (OpenSpec.ofChange fnExactIsNothingWrong)

/-- 'laws.FnExactWinsSum': WHATEVER THE INPUT: true; the input reads as it did. -/
def fnExactWinsSumSpec : ChangeSpec := { name := "fnExactWinsSum", fn := fun _ => fun
  | [d1, d2] => { results := [.lit (.bool true)], args := [d1, d2] }
  | _ => none }
def fnExactWinsSumRow : OpenClaim := { program := "ytjpabjmcooiflaadoor", sum := "71fe110a361d2f89263c328e9f5efd57df114822c4ea1e388cb838e466ca560f", func := "loop.example/g01271/laws.FnExactWinsSum", spec := "fnExactWinsSum", inPlace := ["internal/bytealg.IndexByteString", "internal/bytealg.IndexString", "internal/abi.NoEscape", "internal/bytealg.MakeNoZero"], unfollowed := true, recurses := true, named := ["unicode/utf8.first", "unicode/utf8.acceptRanges", "internal/bytealg.MaxLen"], apart := false, laid := [("unicode/utf8.acceptRanges", laid_unicode_utf8_acceptRanges), ("unicode/utf8.first", laid_unicode_utf8_first)] }
def FnExactWinsSumSaid : Prop := fnExactWinsSumRow.holds Tryd.pinned (OpenSpec.ofChange fnExactWinsSumSpec)

/-- ITS FALSE NEIGHBOUR: 'it returns false'. Refute it at one input. -/
def fnExactWinsSumWrong : ChangeSpec := { name := "fnExactWinsSum", fn := fun _ => fun
  | [d1, d2] => { results := [.lit (.bool false)], args := [d1, d2] }
  | _ => none }
def FnExactWinsSumWrongFalsely : Prop := fnExactWinsSumRow.holds Tryd.pinned (OpenSpec.ofChange fnExactWinsSumWrong)

/-- 'laws.FnExactOutcomeOfSum': WHATEVER THE INPUT: true; the input reads as it did. -/
def fnExactOutcomeOfSumSpec : ChangeSpec := { name := "fnExactOutcomeOfSum", fn := fun _ => fun
  | [d] => { results := [.lit (.bool true)], args := [d] }
  | _ => none }
def fnExactOutcomeOfSumRow : OpenClaim := { program := "ytjpabjmcooiflaadoor", sum := "71fe110a361d2f89263c328e9f5efd57df114822c4ea1e388cb838e466ca560f", func := "loop.example/g01271/laws.FnExactOutcomeOfSum", spec := "fnExactOutcomeOfSum", inPlace := ["internal/bytealg.IndexByteString", "internal/bytealg.IndexString", "internal/abi.NoEscape", "internal/bytealg.MakeNoZero"], unfollowed := true, recurses := true, named := ["unicode/utf8.first", "unicode/utf8.acceptRanges", "internal/bytealg.MaxLen"], apart := false, laid := [("unicode/utf8.acceptRanges", laid_unicode_utf8_acceptRanges), ("unicode/utf8.first", laid_unicode_utf8_first)] }
def FnExactOutcomeOfSumSaid : Prop := fnExactOutcomeOfSumRow.holds Tryd.pinned (OpenSpec.ofChange fnExactOutcomeOfSumSpec)

/-- ITS FALSE NEIGHBOUR: 'it returns false'. Refute it at one input. -/
def fnExactOutcomeOfSumWrong : ChangeSpec := { name := "fnExactOutcomeOfSum", fn := fun _ => fun
  | [d] => { results := [.lit (.bool false)], args := [d] }
  | _ => none }
def FnExactOutcomeOfSumWrongFalsely : Prop := fnExactOutcomeOfSumRow.holds Tryd.pinned (OpenSpec.ofChange fnExactOutcomeOfSumWrong)

/-- 'laws.FnExactCompareGames': WHATEVER THE INPUT: true; the input reads as it did. -/
def fnExactCompareGamesSpec : ChangeSpec := { name := "fnExactCompareGames", fn := fun _ => fun
  | [d1, d2] => { results := [.lit (.bool true)], args := [d1, d2] }
  | _ => none }
def fnExactCompareGamesRow : OpenClaim := { program := "ytjpabjmcooiflaadoor", sum := "71fe110a361d2f89263c328e9f5efd57df114822c4ea1e388cb838e466ca560f", func := "loop.example/g01271/laws.FnExactCompareGames", spec := "fnExactCompareGames", inPlace := ["internal/bytealg.IndexByteString", "internal/bytealg.IndexString", "internal/abi.NoEscape", "internal/bytealg.MakeNoZero"], unfollowed := true, recurses := true, named := ["unicode/utf8.first", "unicode/utf8.acceptRanges", "internal/bytealg.MaxLen"], apart := false, laid := [("unicode/utf8.acceptRanges", laid_unicode_utf8_acceptRanges), ("unicode/utf8.first", laid_unicode_utf8_first)] }
def FnExactCompareGamesSaid : Prop := fnExactCompareGamesRow.holds Tryd.pinned (OpenSpec.ofChange fnExactCompareGamesSpec)

/-- ITS FALSE NEIGHBOUR: 'it returns false'. Refute it at one input. -/
def fnExactCompareGamesWrong : ChangeSpec := { name := "fnExactCompareGames", fn := fun _ => fun
  | [d1, d2] => { results := [.lit (.bool false)], args := [d1, d2] }
  | _ => none }
def FnExactCompareGamesWrongFalsely : Prop := fnExactCompareGamesRow.holds Tryd.pinned (OpenSpec.ofChange fnExactCompareGamesWrong)

/-- 'laws.FnExactBestMoves': WHATEVER THE INPUT: true; the input reads as it did. -/
def fnExactBestMovesSpec : ChangeSpec := { name := "fnExactBestMoves", fn := fun _ => fun
  | [d1, d2] => { results := [.lit (.bool true)], args := [d1, d2] }
  | _ => none }
def fnExactBestMovesRow : OpenClaim := { program := "ytjpabjmcooiflaadoor", sum := "71fe110a361d2f89263c328e9f5efd57df114822c4ea1e388cb838e466ca560f", func := "loop.example/g01271/laws.FnExactBestMoves", spec := "fnExactBestMoves", inPlace := ["internal/bytealg.IndexByteString", "internal/bytealg.IndexString"], unfollowed := true, recurses := true, named := ["unicode/utf8.first", "unicode/utf8.acceptRanges", "internal/bytealg.MaxLen"], apart := false, laid := [("unicode/utf8.acceptRanges", laid_unicode_utf8_acceptRanges), ("unicode/utf8.first", laid_unicode_utf8_first)] }
def FnExactBestMovesSaid : Prop := fnExactBestMovesRow.holds Tryd.pinned (OpenSpec.ofChange fnExactBestMovesSpec)

/-- ITS FALSE NEIGHBOUR: 'it returns false'. Refute it at one input. -/
def fnExactBestMovesWrong : ChangeSpec := { name := "fnExactBestMoves", fn := fun _ => fun
  | [d1, d2] => { results := [.lit (.bool false)], args := [d1, d2] }
  | _ => none }
def FnExactBestMovesWrongFalsely : Prop := fnExactBestMovesRow.holds Tryd.pinned (OpenSpec.ofChange fnExactBestMovesWrong)

/-- 'laws.FnExactGameMove': WHATEVER THE INPUT: true; the input reads as it did. -/
def fnExactGameMoveSpec : ChangeSpec := { name := "fnExactGameMove", fn := fun _ => fun
  | [d1, d2] => { results := [.lit (.bool true)], args := [d1, d2] }
  | _ => none }
def fnExactGameMoveRow : OpenClaim := { program := "ytjpabjmcooiflaadoor", sum := "71fe110a361d2f89263c328e9f5efd57df114822c4ea1e388cb838e466ca560f", func := "loop.example/g01271/laws.FnExactGameMove", spec := "fnExactGameMove", inPlace := ["internal/bytealg.IndexByteString", "internal/bytealg.IndexString"], unfollowed := true, recurses := true, named := ["unicode/utf8.first", "unicode/utf8.acceptRanges", "internal/bytealg.MaxLen"], apart := false, laid := [("unicode/utf8.acceptRanges", laid_unicode_utf8_acceptRanges), ("unicode/utf8.first", laid_unicode_utf8_first)] }
def FnExactGameMoveSaid : Prop := fnExactGameMoveRow.holds Tryd.pinned (OpenSpec.ofChange fnExactGameMoveSpec)

/-- ITS FALSE NEIGHBOUR: 'it returns false'. Refute it at one input. -/
def fnExactGameMoveWrong : ChangeSpec := { name := "fnExactGameMove", fn := fun _ => fun
  | [d1, d2] => { results := [.lit (.bool false)], args := [d1, d2] }
  | _ => none }
def FnExactGameMoveWrongFalsely : Prop := fnExactGameMoveRow.holds Tryd.pinned (OpenSpec.ofChange fnExactGameMoveWrong)

/-- 'laws.FnExactGamePlay': WHATEVER THE INPUT: true; the input reads as it did. -/
def fnExactGamePlaySpec : ChangeSpec := { name := "fnExactGamePlay", fn := fun _ => fun
  | [d1, d2] => { results := [.lit (.bool true)], args := [d1, d2] }
  | _ => none }
def fnExactGamePlayRow : OpenClaim := { program := "ytjpabjmcooiflaadoor", sum := "71fe110a361d2f89263c328e9f5efd57df114822c4ea1e388cb838e466ca560f", func := "loop.example/g01271/laws.FnExactGamePlay", spec := "fnExactGamePlay", inPlace := ["internal/bytealg.IndexByteString", "internal/bytealg.IndexString"], unfollowed := true, recurses := true, named := ["unicode/utf8.first", "unicode/utf8.acceptRanges", "internal/bytealg.MaxLen"], apart := false, laid := [("unicode/utf8.acceptRanges", laid_unicode_utf8_acceptRanges), ("unicode/utf8.first", laid_unicode_utf8_first)] }
def FnExactGamePlaySaid : Prop := fnExactGamePlayRow.holds Tryd.pinned (OpenSpec.ofChange fnExactGamePlaySpec)

/-- ITS FALSE NEIGHBOUR: 'it returns false'. Refute it at one input. -/
def fnExactGamePlayWrong : ChangeSpec := { name := "fnExactGamePlay", fn := fun _ => fun
  | [d1, d2] => { results := [.lit (.bool false)], args := [d1, d2] }
  | _ => none }
def FnExactGamePlayWrongFalsely : Prop := fnExactGamePlayRow.holds Tryd.pinned (OpenSpec.ofChange fnExactGamePlayWrong)

/- THE SECOND FORM. 'bulk': how many values and letters a reading holds, each counted each time it is reached (what is shared counts as often as it is met; a slice's spare places count too). A statement '..UptoSaid' is the law's where the arguments, and the package variables that the reading takes, are together of bulk at most 1048576: NARROWER than '..Said'. Prove '..Said' where nothing that the law and all that it calls make is longer than what came in: it says more and counts as full. Else prove '..UptoSaid'. A law counts once. -/
mutual
def uptoBulk {H : Type} : DataW H → Nat
  | .lit (.string bytes) => bytes.length + 1
  | .lit _ => 1
  | .nil => 1
  | .ptr d => uptoBulk d + 1
  | .slice elems spare => uptoBulkAll elems + uptoBulkAll spare + 1
  | .agg parts => uptoBulkAll parts + 1
  | .iface _ d => uptoBulk d + 1
  | .map entries => uptoBulkEntries entries + 1
  | .held _ => 1
def uptoBulkAll {H : Type} : List (DataW H) → Nat
  | [] => 0
  | d :: r => uptoBulk d + uptoBulkAll r
def uptoBulkEntries {H : Type} : List (Lit × DataW H) → Nat
  | [] => 0
  | x :: r => uptoBulkEntry x + uptoBulkEntries r
def uptoBulkEntry {H : Type} : Lit × DataW H → Nat
  | (.string bytes, d) => bytes.length + uptoBulk d + 1
  | (_, d) => uptoBulk d + 1
 end
def uptoSmall : (H : Type) → List (DataW H) → Bool := fun _ ds => decide (uptoBulkAll ds ≤ 1048576)
def OpenSpec.upto (s : _root_.Go.ChangeSpec) : _root_.Go.OpenSpec := { _root_.Go.OpenSpec.ofChange s with cond := some uptoSmall }

/-- 'laws.FnExactKindsOfWord', WHERE WHAT IT READS IS OF BULK AT MOST 1048576: true; the input reads as it did. -/
def fnExactKindsOfWordUptoRow : OpenClaim := { program := "ytjpabjmcooiflaadoor", sum := "71fe110a361d2f89263c328e9f5efd57df114822c4ea1e388cb838e466ca560f", func := "loop.example/g01271/laws.FnExactKindsOfWord", spec := "fnExactKindsOfWord", inPlace := ["internal/bytealg.IndexByteString", "internal/bytealg.IndexString", "internal/bytealg.CountString"], named := ["unicode/utf8.first", "unicode/utf8.acceptRanges", "internal/bytealg.MaxLen"], apart := false, laid := [("unicode/utf8.acceptRanges", laid_unicode_utf8_acceptRanges), ("unicode/utf8.first", laid_unicode_utf8_first)], narrowed := true }
def FnExactKindsOfWordUptoSaid : Prop := fnExactKindsOfWordUptoRow.holds Tryd.pinned (OpenSpec.upto fnExactKindsOfWordSpec)

/-- 'laws.FnExactFreeMoves', WHERE WHAT IT READS IS OF BULK AT MOST 1048576: true; the input reads as it did. -/
def fnExactFreeMovesUptoRow : OpenClaim := { program := "ytjpabjmcooiflaadoor", sum := "71fe110a361d2f89263c328e9f5efd57df114822c4ea1e388cb838e466ca560f", func := "loop.example/g01271/laws.FnExactFreeMoves", spec := "fnExactFreeMoves", inPlace := ["internal/bytealg.IndexByteString", "internal/bytealg.IndexString"], unfollowed := true, recurses := true, named := ["unicode/utf8.first", "unicode/utf8.acceptRanges", "internal/bytealg.MaxLen"], apart := false, laid := [("unicode/utf8.acceptRanges", laid_unicode_utf8_acceptRanges), ("unicode/utf8.first", laid_unicode_utf8_first)], narrowed := true }
def FnExactFreeMovesUptoSaid : Prop := fnExactFreeMovesUptoRow.holds Tryd.pinned (OpenSpec.upto fnExactFreeMovesSpec)

/-- 'laws.FnExactWinsMoving', WHERE WHAT IT READS IS OF BULK AT MOST 1048576: true; the input reads as it did. -/
def fnExactWinsMovingUptoRow : OpenClaim := { program := "ytjpabjmcooiflaadoor", sum := "71fe110a361d2f89263c328e9f5efd57df114822c4ea1e388cb838e466ca560f", func := "loop.example/g01271/laws.FnExactWinsMoving", spec := "fnExactWinsMoving", inPlace := ["internal/bytealg.IndexByteString", "internal/bytealg.IndexString", "internal/abi.NoEscape", "internal/bytealg.MakeNoZero"], unfollowed := true, recurses := true, named := ["unicode/utf8.first", "unicode/utf8.acceptRanges", "internal/bytealg.MaxLen"], apart := false, laid := [("unicode/utf8.acceptRanges", laid_unicode_utf8_acceptRanges), ("unicode/utf8.first", laid_unicode_utf8_first)], narrowed := true }
def FnExactWinsMovingUptoSaid : Prop := fnExactWinsMovingUptoRow.holds Tryd.pinned (OpenSpec.upto fnExactWinsMovingSpec)

/-- 'laws.FnExactOutcomeOf', WHERE WHAT IT READS IS OF BULK AT MOST 1048576: true; the input reads as it did. -/
def fnExactOutcomeOfUptoRow : OpenClaim := { program := "ytjpabjmcooiflaadoor", sum := "71fe110a361d2f89263c328e9f5efd57df114822c4ea1e388cb838e466ca560f", func := "loop.example/g01271/laws.FnExactOutcomeOf", spec := "fnExactOutcomeOf", inPlace := ["internal/bytealg.IndexByteString", "internal/bytealg.IndexString", "internal/abi.NoEscape", "internal/bytealg.MakeNoZero"], unfollowed := true, recurses := true, named := ["unicode/utf8.first", "unicode/utf8.acceptRanges", "internal/bytealg.MaxLen"], apart := false, laid := [("unicode/utf8.acceptRanges", laid_unicode_utf8_acceptRanges), ("unicode/utf8.first", laid_unicode_utf8_first)], narrowed := true }
def FnExactOutcomeOfUptoSaid : Prop := fnExactOutcomeOfUptoRow.holds Tryd.pinned (OpenSpec.upto fnExactOutcomeOfSpec)

/-- 'laws.FnExactIsNothing', WHERE WHAT IT READS IS OF BULK AT MOST 1048576: true; the input reads as it did. -/
def fnExactIsNothingUptoRow : OpenClaim := { program := "ytjpabjmcooiflaadoor", sum := "71fe110a361d2f89263c328e9f5efd57df114822c4ea1e388cb838e466ca560f", func := "loop.example/g01271/laws.FnExactIsNothing", spec := "fnExactIsNothing", inPlace := ["internal/bytealg.IndexByteString", "internal/bytealg.IndexString", "internal/abi.NoEscape", "internal/bytealg.MakeNoZero"], unfollowed := true, recurses := true, named := ["unicode/utf8.first", "unicode/utf8.acceptRanges", "internal/bytealg.MaxLen"], apart := false, laid := [("unicode/utf8.acceptRanges", laid_unicode_utf8_acceptRanges), ("unicode/utf8.first", laid_unicode_utf8_first)], narrowed := true }
def FnExactIsNothingUptoSaid : Prop := fnExactIsNothingUptoRow.holds Tryd.pinned (OpenSpec.upto fnExactIsNothingSpec)

/-- 'laws.FnExactWinsSum', WHERE WHAT IT READS IS OF BULK AT MOST 1048576: true; the input reads as it did. -/
def fnExactWinsSumUptoRow : OpenClaim := { program := "ytjpabjmcooiflaadoor", sum := "71fe110a361d2f89263c328e9f5efd57df114822c4ea1e388cb838e466ca560f", func := "loop.example/g01271/laws.FnExactWinsSum", spec := "fnExactWinsSum", inPlace := ["internal/bytealg.IndexByteString", "internal/bytealg.IndexString", "internal/abi.NoEscape", "internal/bytealg.MakeNoZero"], unfollowed := true, recurses := true, named := ["unicode/utf8.first", "unicode/utf8.acceptRanges", "internal/bytealg.MaxLen"], apart := false, laid := [("unicode/utf8.acceptRanges", laid_unicode_utf8_acceptRanges), ("unicode/utf8.first", laid_unicode_utf8_first)], narrowed := true }
def FnExactWinsSumUptoSaid : Prop := fnExactWinsSumUptoRow.holds Tryd.pinned (OpenSpec.upto fnExactWinsSumSpec)

/-- 'laws.FnExactOutcomeOfSum', WHERE WHAT IT READS IS OF BULK AT MOST 1048576: true; the input reads as it did. -/
def fnExactOutcomeOfSumUptoRow : OpenClaim := { program := "ytjpabjmcooiflaadoor", sum := "71fe110a361d2f89263c328e9f5efd57df114822c4ea1e388cb838e466ca560f", func := "loop.example/g01271/laws.FnExactOutcomeOfSum", spec := "fnExactOutcomeOfSum", inPlace := ["internal/bytealg.IndexByteString", "internal/bytealg.IndexString", "internal/abi.NoEscape", "internal/bytealg.MakeNoZero"], unfollowed := true, recurses := true, named := ["unicode/utf8.first", "unicode/utf8.acceptRanges", "internal/bytealg.MaxLen"], apart := false, laid := [("unicode/utf8.acceptRanges", laid_unicode_utf8_acceptRanges), ("unicode/utf8.first", laid_unicode_utf8_first)], narrowed := true }
def FnExactOutcomeOfSumUptoSaid : Prop := fnExactOutcomeOfSumUptoRow.holds Tryd.pinned (OpenSpec.upto fnExactOutcomeOfSumSpec)

/-- 'laws.FnExactCompareGames', WHERE WHAT IT READS IS OF BULK AT MOST 1048576: true; the input reads as it did. -/
def fnExactCompareGamesUptoRow : OpenClaim := { program := "ytjpabjmcooiflaadoor", sum := "71fe110a361d2f89263c328e9f5efd57df114822c4ea1e388cb838e466ca560f", func := "loop.example/g01271/laws.FnExactCompareGames", spec := "fnExactCompareGames", inPlace := ["internal/bytealg.IndexByteString", "internal/bytealg.IndexString", "internal/abi.NoEscape", "internal/bytealg.MakeNoZero"], unfollowed := true, recurses := true, named := ["unicode/utf8.first", "unicode/utf8.acceptRanges", "internal/bytealg.MaxLen"], apart := false, laid := [("unicode/utf8.acceptRanges", laid_unicode_utf8_acceptRanges), ("unicode/utf8.first", laid_unicode_utf8_first)], narrowed := true }
def FnExactCompareGamesUptoSaid : Prop := fnExactCompareGamesUptoRow.holds Tryd.pinned (OpenSpec.upto fnExactCompareGamesSpec)

/-- 'laws.FnExactBestMoves', WHERE WHAT IT READS IS OF BULK AT MOST 1048576: true; the input reads as it did. -/
def fnExactBestMovesUptoRow : OpenClaim := { program := "ytjpabjmcooiflaadoor", sum := "71fe110a361d2f89263c328e9f5efd57df114822c4ea1e388cb838e466ca560f", func := "loop.example/g01271/laws.FnExactBestMoves", spec := "fnExactBestMoves", inPlace := ["internal/bytealg.IndexByteString", "internal/bytealg.IndexString"], unfollowed := true, recurses := true, named := ["unicode/utf8.first", "unicode/utf8.acceptRanges", "internal/bytealg.MaxLen"], apart := false, laid := [("unicode/utf8.acceptRanges", laid_unicode_utf8_acceptRanges), ("unicode/utf8.first", laid_unicode_utf8_first)], narrowed := true }
def FnExactBestMovesUptoSaid : Prop := fnExactBestMovesUptoRow.holds Tryd.pinned (OpenSpec.upto fnExactBestMovesSpec)

/-- 'laws.FnExactGameMove', WHERE WHAT IT READS IS OF BULK AT MOST 1048576: true; the input reads as it did. -/
def fnExactGameMoveUptoRow : OpenClaim := { program := "ytjpabjmcooiflaadoor", sum := "71fe110a361d2f89263c328e9f5efd57df114822c4ea1e388cb838e466ca560f", func := "loop.example/g01271/laws.FnExactGameMove", spec := "fnExactGameMove", inPlace := ["internal/bytealg.IndexByteString", "internal/bytealg.IndexString"], unfollowed := true, recurses := true, named := ["unicode/utf8.first", "unicode/utf8.acceptRanges", "internal/bytealg.MaxLen"], apart := false, laid := [("unicode/utf8.acceptRanges", laid_unicode_utf8_acceptRanges), ("unicode/utf8.first", laid_unicode_utf8_first)], narrowed := true }
def FnExactGameMoveUptoSaid : Prop := fnExactGameMoveUptoRow.holds Tryd.pinned (OpenSpec.upto fnExactGameMoveSpec)

/-- 'laws.FnExactGamePlay', WHERE WHAT IT READS IS OF BULK AT MOST 1048576: true; the input reads as it did. -/
def fnExactGamePlayUptoRow : OpenClaim := { program := "ytjpabjmcooiflaadoor", sum := "71fe110a361d2f89263c328e9f5efd57df114822c4ea1e388cb838e466ca560f", func := "loop.example/g01271/laws.FnExactGamePlay", spec := "fnExactGamePlay", inPlace := ["internal/bytealg.IndexByteString", "internal/bytealg.IndexString"], unfollowed := true, recurses := true, named := ["unicode/utf8.first", "unicode/utf8.acceptRanges", "internal/bytealg.MaxLen"], apart := false, laid := [("unicode/utf8.acceptRanges", laid_unicode_utf8_acceptRanges), ("unicode/utf8.first", laid_unicode_utf8_first)], narrowed := true }
def FnExactGamePlayUptoSaid : Prop := fnExactGamePlayUptoRow.holds Tryd.pinned (OpenSpec.upto fnExactGamePlaySpec)

end Rows
end Go.Proofs.YtjpabjmcooiflaaDoor
