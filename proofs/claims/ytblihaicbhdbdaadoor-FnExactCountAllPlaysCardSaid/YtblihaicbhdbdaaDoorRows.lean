/-
  NARROWER THAN 'FOR EVERY INPUT', by the rows' own cells (each row's printed sentence says how): FnExactWordBetween: laid · FnExactLongestWord: laid · FnExactFirstPlay: laid · FnExactCountAllPlays: laid · FnExactLongestGame: laid · FnExactShortestGame: laid · FnExactCountGames: laid.
  DERIVED. THE GIVEN ROWS OF THIS SEAT. 7 by the template 'for every input the law returns true; each argument reads behind the call as it read before'; 0 by the template 'total and deterministic' (their statements: YtblihaicbhdbdaaDoorTotals.lean).
  GIVEN WITH THE SEED: the statements are not yours to turn. If you find one false, say at which input.
  Laid BY PROGRAM, IN A SANDBOX (cutbox-rows.mjs): the forced cells as the released guide's own fill.sh prints them over the translation c43f096926d3e64a… (all of the seat's roots in one cut). By AI agents, Wed Nov 11 2026. No macro, syntax, notation, axiom, sorry.
-/
import Derived.Test.YtblihaicbhdbdaaDoorChecked
import GoSem.PinnedTables
import GoSem.Claim
import GoSem.ClaimJoined
import GoSem.ClaimMapViews
import Derived.JoinedTies
import Derived.KernelRfl
namespace Go.Proofs.YtblihaicbhdbdaaDoor
/- THE CELL 'sum', in the pinned program and in every row, IS THE sha256 OF THE DUMP (.gsa) THAT YtblihaicbhdbdaaDoorProg.lean LOADS. Nothing in Lean hashes anything: it is a label: what it is worth is what the hold of that sum in a sandbox is worth. -/
noncomputable def Tryd.pinned : Pinned := { name := "ytblihaicbhdbdaadoor", sum := "c43f096926d3e64adf52f50a815c97f40409d9003f66c424763520759be1189e", checked := Tryd.checked }
namespace Rows
def none {H : Type} : Left H := { results := [], args := [] }

/- WHAT THE LISTED PACKAGE-LEVEL VARIABLES READ AS WHEN THE CALL BEGINS. Each datum BY PROGRAM (the guide's laid-datum.mjs) off the statement by which the dump's own 'gosem.cut.vars' lays the variable. In a bare row this is a premise. The card (YtblihaicbhdbdaaDoorCards.lean) ties it to the program's text. -/
def laid_unicode_utf8_acceptRanges {H : Type} : DataW H := .agg [.agg [.lit (.int .u8 128), .lit (.int .u8 191)], .agg [.lit (.int .u8 160), .lit (.int .u8 191)], .agg [.lit (.int .u8 128), .lit (.int .u8 159)], .agg [.lit (.int .u8 144), .lit (.int .u8 191)], .agg [.lit (.int .u8 128), .lit (.int .u8 143)], .agg [.lit (.int .u8 0), .lit (.int .u8 0)], .agg [.lit (.int .u8 0), .lit (.int .u8 0)], .agg [.lit (.int .u8 0), .lit (.int .u8 0)], .agg [.lit (.int .u8 0), .lit (.int .u8 0)], .agg [.lit (.int .u8 0), .lit (.int .u8 0)], .agg [.lit (.int .u8 0), .lit (.int .u8 0)], .agg [.lit (.int .u8 0), .lit (.int .u8 0)], .agg [.lit (.int .u8 0), .lit (.int .u8 0)], .agg [.lit (.int .u8 0), .lit (.int .u8 0)], .agg [.lit (.int .u8 0), .lit (.int .u8 0)], .agg [.lit (.int .u8 0), .lit (.int .u8 0)]]
/-- One of Go's own tables, pinned by name: the form's constant. -/
def laid_unicode_utf8_first : DataW Unit := Go.Pinned.utf8First

/-- 'laws.FnExactWordBetween': WHATEVER THE INPUT: true; the input reads as it did. -/
def fnExactWordBetweenSpec : ChangeSpec := { name := "fnExactWordBetween", fn := fun _ => fun
  | [d1, d2] => { results := [.lit (.bool true)], args := [d1, d2] }
  | _ => none }
def fnExactWordBetweenRow : OpenClaim := { program := "ytblihaicbhdbdaadoor", sum := "c43f096926d3e64adf52f50a815c97f40409d9003f66c424763520759be1189e", func := "loop.example/g01271/laws.FnExactWordBetween", spec := "fnExactWordBetween", inPlace := ["internal/bytealg.IndexByteString", "internal/bytealg.IndexString", "internal/bytealg.CountString"], recurses := true, named := ["unicode/utf8.first", "unicode/utf8.acceptRanges", "internal/bytealg.MaxLen"], apart := false, laid := [("unicode/utf8.acceptRanges", laid_unicode_utf8_acceptRanges), ("unicode/utf8.first", laid_unicode_utf8_first)] }
def FnExactWordBetweenSaid : Prop := fnExactWordBetweenRow.holds Tryd.pinned (OpenSpec.ofChange fnExactWordBetweenSpec)

/-- ITS FALSE NEIGHBOUR: 'it returns false'. Refute it at one input. -/
def fnExactWordBetweenWrong : ChangeSpec := { name := "fnExactWordBetween", fn := fun _ => fun
  | [d1, d2] => { results := [.lit (.bool false)], args := [d1, d2] }
  | _ => none }
def FnExactWordBetweenWrongFalsely : Prop := fnExactWordBetweenRow.holds Tryd.pinned (OpenSpec.ofChange fnExactWordBetweenWrong)

/-- 'laws.FnExactLongestWord': WHATEVER THE INPUT: true; the input reads as it did. -/
def fnExactLongestWordSpec : ChangeSpec := { name := "fnExactLongestWord", fn := fun _ => fun
  | [d] => { results := [.lit (.bool true)], args := [d] }
  | _ => none }
def fnExactLongestWordRow : OpenClaim := { program := "ytblihaicbhdbdaadoor", sum := "c43f096926d3e64adf52f50a815c97f40409d9003f66c424763520759be1189e", func := "loop.example/g01271/laws.FnExactLongestWord", spec := "fnExactLongestWord", inPlace := ["internal/bytealg.IndexByteString", "internal/bytealg.IndexString", "internal/bytealg.CountString"], unfollowed := true, recurses := true, named := ["unicode/utf8.first", "unicode/utf8.acceptRanges", "internal/bytealg.MaxLen"], apart := false, laid := [("unicode/utf8.acceptRanges", laid_unicode_utf8_acceptRanges), ("unicode/utf8.first", laid_unicode_utf8_first)] }
def FnExactLongestWordSaid : Prop := fnExactLongestWordRow.holds Tryd.pinned (OpenSpec.ofChange fnExactLongestWordSpec)

/-- ITS FALSE NEIGHBOUR: 'it returns false'. Refute it at one input. -/
def fnExactLongestWordWrong : ChangeSpec := { name := "fnExactLongestWord", fn := fun _ => fun
  | [d] => { results := [.lit (.bool false)], args := [d] }
  | _ => none }
def FnExactLongestWordWrongFalsely : Prop := fnExactLongestWordRow.holds Tryd.pinned (OpenSpec.ofChange fnExactLongestWordWrong)

/-- 'laws.FnExactFirstPlay': WHATEVER THE INPUT: true; the input reads as it did. -/
def fnExactFirstPlaySpec : ChangeSpec := { name := "fnExactFirstPlay", fn := fun _ => fun
  | [d1, d2] => { results := [.lit (.bool true)], args := [d1, d2] }
  | _ => none }
def fnExactFirstPlayRow : OpenClaim := { program := "ytblihaicbhdbdaadoor", sum := "c43f096926d3e64adf52f50a815c97f40409d9003f66c424763520759be1189e", func := "loop.example/g01271/laws.FnExactFirstPlay", spec := "fnExactFirstPlay", inPlace := ["internal/bytealg.IndexByteString", "internal/bytealg.IndexString"], unfollowed := true, recurses := true, named := ["unicode/utf8.first", "unicode/utf8.acceptRanges", "internal/bytealg.MaxLen"], apart := false, laid := [("unicode/utf8.acceptRanges", laid_unicode_utf8_acceptRanges), ("unicode/utf8.first", laid_unicode_utf8_first)] }
def FnExactFirstPlaySaid : Prop := fnExactFirstPlayRow.holds Tryd.pinned (OpenSpec.ofChange fnExactFirstPlaySpec)

/-- ITS FALSE NEIGHBOUR: 'it returns false'. Refute it at one input. -/
def fnExactFirstPlayWrong : ChangeSpec := { name := "fnExactFirstPlay", fn := fun _ => fun
  | [d1, d2] => { results := [.lit (.bool false)], args := [d1, d2] }
  | _ => none }
def FnExactFirstPlayWrongFalsely : Prop := fnExactFirstPlayRow.holds Tryd.pinned (OpenSpec.ofChange fnExactFirstPlayWrong)

/-- 'laws.FnExactCountAllPlays': WHATEVER THE INPUT: true; the input reads as it did. -/
def fnExactCountAllPlaysSpec : ChangeSpec := { name := "fnExactCountAllPlays", fn := fun _ => fun
  | [d] => { results := [.lit (.bool true)], args := [d] }
  | _ => none }
def fnExactCountAllPlaysRow : OpenClaim := { program := "ytblihaicbhdbdaadoor", sum := "c43f096926d3e64adf52f50a815c97f40409d9003f66c424763520759be1189e", func := "loop.example/g01271/laws.FnExactCountAllPlays", spec := "fnExactCountAllPlays", inPlace := ["internal/bytealg.IndexByteString", "internal/bytealg.IndexString"], unfollowed := true, recurses := true, named := ["unicode/utf8.first", "unicode/utf8.acceptRanges", "internal/bytealg.MaxLen"], apart := false, laid := [("unicode/utf8.acceptRanges", laid_unicode_utf8_acceptRanges), ("unicode/utf8.first", laid_unicode_utf8_first)] }
def FnExactCountAllPlaysSaid : Prop := fnExactCountAllPlaysRow.holds Tryd.pinned (OpenSpec.ofChange fnExactCountAllPlaysSpec)

/-- ITS FALSE NEIGHBOUR: 'it returns false'. Refute it at one input. -/
def fnExactCountAllPlaysWrong : ChangeSpec := { name := "fnExactCountAllPlays", fn := fun _ => fun
  | [d] => { results := [.lit (.bool false)], args := [d] }
  | _ => none }
def FnExactCountAllPlaysWrongFalsely : Prop := fnExactCountAllPlaysRow.holds Tryd.pinned (OpenSpec.ofChange fnExactCountAllPlaysWrong)

/-- 'laws.FnExactLongestGame': WHATEVER THE INPUT: true; the input reads as it did. -/
def fnExactLongestGameSpec : ChangeSpec := { name := "fnExactLongestGame", fn := fun _ => fun
  | [d1, d2] => { results := [.lit (.bool true)], args := [d1, d2] }
  | _ => none }
def fnExactLongestGameRow : OpenClaim := { program := "ytblihaicbhdbdaadoor", sum := "c43f096926d3e64adf52f50a815c97f40409d9003f66c424763520759be1189e", func := "loop.example/g01271/laws.FnExactLongestGame", spec := "fnExactLongestGame", inPlace := ["internal/bytealg.IndexByteString", "internal/bytealg.IndexString"], unfollowed := true, recurses := true, named := ["unicode/utf8.first", "unicode/utf8.acceptRanges", "internal/bytealg.MaxLen"], apart := false, laid := [("unicode/utf8.acceptRanges", laid_unicode_utf8_acceptRanges), ("unicode/utf8.first", laid_unicode_utf8_first)] }
def FnExactLongestGameSaid : Prop := fnExactLongestGameRow.holds Tryd.pinned (OpenSpec.ofChange fnExactLongestGameSpec)

/-- ITS FALSE NEIGHBOUR: 'it returns false'. Refute it at one input. -/
def fnExactLongestGameWrong : ChangeSpec := { name := "fnExactLongestGame", fn := fun _ => fun
  | [d1, d2] => { results := [.lit (.bool false)], args := [d1, d2] }
  | _ => none }
def FnExactLongestGameWrongFalsely : Prop := fnExactLongestGameRow.holds Tryd.pinned (OpenSpec.ofChange fnExactLongestGameWrong)

/-- 'laws.FnExactShortestGame': WHATEVER THE INPUT: true; the input reads as it did. -/
def fnExactShortestGameSpec : ChangeSpec := { name := "fnExactShortestGame", fn := fun _ => fun
  | [d1, d2] => { results := [.lit (.bool true)], args := [d1, d2] }
  | _ => none }
def fnExactShortestGameRow : OpenClaim := { program := "ytblihaicbhdbdaadoor", sum := "c43f096926d3e64adf52f50a815c97f40409d9003f66c424763520759be1189e", func := "loop.example/g01271/laws.FnExactShortestGame", spec := "fnExactShortestGame", inPlace := ["internal/bytealg.IndexByteString", "internal/bytealg.IndexString"], unfollowed := true, recurses := true, named := ["unicode/utf8.first", "unicode/utf8.acceptRanges", "internal/bytealg.MaxLen"], apart := false, laid := [("unicode/utf8.acceptRanges", laid_unicode_utf8_acceptRanges), ("unicode/utf8.first", laid_unicode_utf8_first)] }
def FnExactShortestGameSaid : Prop := fnExactShortestGameRow.holds Tryd.pinned (OpenSpec.ofChange fnExactShortestGameSpec)

/-- ITS FALSE NEIGHBOUR: 'it returns false'. Refute it at one input. -/
def fnExactShortestGameWrong : ChangeSpec := { name := "fnExactShortestGame", fn := fun _ => fun
  | [d1, d2] => { results := [.lit (.bool false)], args := [d1, d2] }
  | _ => none }
def FnExactShortestGameWrongFalsely : Prop := fnExactShortestGameRow.holds Tryd.pinned (OpenSpec.ofChange fnExactShortestGameWrong)

/-- 'laws.FnExactCountGames': WHATEVER THE INPUT: true; the input reads as it did. -/
def fnExactCountGamesSpec : ChangeSpec := { name := "fnExactCountGames", fn := fun _ => fun
  | [d1, d2] => { results := [.lit (.bool true)], args := [d1, d2] }
  | _ => none }
def fnExactCountGamesRow : OpenClaim := { program := "ytblihaicbhdbdaadoor", sum := "c43f096926d3e64adf52f50a815c97f40409d9003f66c424763520759be1189e", func := "loop.example/g01271/laws.FnExactCountGames", spec := "fnExactCountGames", inPlace := ["internal/bytealg.IndexByteString", "internal/bytealg.IndexString"], unfollowed := true, recurses := true, named := ["unicode/utf8.first", "unicode/utf8.acceptRanges", "internal/bytealg.MaxLen"], apart := false, laid := [("unicode/utf8.acceptRanges", laid_unicode_utf8_acceptRanges), ("unicode/utf8.first", laid_unicode_utf8_first)] }
def FnExactCountGamesSaid : Prop := fnExactCountGamesRow.holds Tryd.pinned (OpenSpec.ofChange fnExactCountGamesSpec)

/-- ITS FALSE NEIGHBOUR: 'it returns false'. Refute it at one input. -/
def fnExactCountGamesWrong : ChangeSpec := { name := "fnExactCountGames", fn := fun _ => fun
  | [d1, d2] => { results := [.lit (.bool false)], args := [d1, d2] }
  | _ => none }
def FnExactCountGamesWrongFalsely : Prop := fnExactCountGamesRow.holds Tryd.pinned (OpenSpec.ofChange fnExactCountGamesWrong)

/- THE SECOND FORM. 'bulk': how many values and letters a reading holds, each counted each time it is reached (what is shared counts as often as it is met; a slice's spare places count too). A statement '..UptoSaid' is the law's where the arguments, and the package variables that the reading takes, are together of bulk at most 1048576: NARROWER than '..Said'. Prove '..Said' where nothing that the law and all that it calls make is longer than what came in: it says more and counts as full. Else prove '..UptoSaid'. A law counts once. -/
mutual
def uptoBulk {H : Type} : DataW H → Nat
  | .lit (.string bytes) => bytes.length + 1
  | .lit _ => 1
  | .nil => 1
  | .ptr d => uptoBulk d + 1
  | .slice elems spare => uptoBulkAll elems + uptoBulkAll spare + 1
  | .agg parts => uptoBulkAll parts + 1
  | .iface _ d => uptoBulk d + 1
  | .map entries => uptoBulkEntries entries + 1
  | .held _ => 1
def uptoBulkAll {H : Type} : List (DataW H) → Nat
  | [] => 0
  | d :: r => uptoBulk d + uptoBulkAll r
def uptoBulkEntries {H : Type} : List (Lit × DataW H) → Nat
  | [] => 0
  | x :: r => uptoBulkEntry x + uptoBulkEntries r
def uptoBulkEntry {H : Type} : Lit × DataW H → Nat
  | (.string bytes, d) => bytes.length + uptoBulk d + 1
  | (_, d) => uptoBulk d + 1
 end
def uptoSmall : (H : Type) → List (DataW H) → Bool := fun _ ds => decide (uptoBulkAll ds ≤ 1048576)
def OpenSpec.upto (s : _root_.Go.ChangeSpec) : _root_.Go.OpenSpec := { _root_.Go.OpenSpec.ofChange s with cond := some uptoSmall }

/-- 'laws.FnExactWordBetween', WHERE WHAT IT READS IS OF BULK AT MOST 1048576: true; the input reads as it did. -/
def fnExactWordBetweenUptoRow : OpenClaim := { program := "ytblihaicbhdbdaadoor", sum := "c43f096926d3e64adf52f50a815c97f40409d9003f66c424763520759be1189e", func := "loop.example/g01271/laws.FnExactWordBetween", spec := "fnExactWordBetween", inPlace := ["internal/bytealg.IndexByteString", "internal/bytealg.IndexString", "internal/bytealg.CountString"], recurses := true, named := ["unicode/utf8.first", "unicode/utf8.acceptRanges", "internal/bytealg.MaxLen"], apart := false, laid := [("unicode/utf8.acceptRanges", laid_unicode_utf8_acceptRanges), ("unicode/utf8.first", laid_unicode_utf8_first)], narrowed := true }
def FnExactWordBetweenUptoSaid : Prop := fnExactWordBetweenUptoRow.holds Tryd.pinned (OpenSpec.upto fnExactWordBetweenSpec)

/-- 'laws.FnExactLongestWord', WHERE WHAT IT READS IS OF BULK AT MOST 1048576: true; the input reads as it did. -/
def fnExactLongestWordUptoRow : OpenClaim := { program := "ytblihaicbhdbdaadoor", sum := "c43f096926d3e64adf52f50a815c97f40409d9003f66c424763520759be1189e", func := "loop.example/g01271/laws.FnExactLongestWord", spec := "fnExactLongestWord", inPlace := ["internal/bytealg.IndexByteString", "internal/bytealg.IndexString", "internal/bytealg.CountString"], unfollowed := true, recurses := true, named := ["unicode/utf8.first", "unicode/utf8.acceptRanges", "internal/bytealg.MaxLen"], apart := false, laid := [("unicode/utf8.acceptRanges", laid_unicode_utf8_acceptRanges), ("unicode/utf8.first", laid_unicode_utf8_first)], narrowed := true }
def FnExactLongestWordUptoSaid : Prop := fnExactLongestWordUptoRow.holds Tryd.pinned (OpenSpec.upto fnExactLongestWordSpec)

/-- 'laws.FnExactFirstPlay', WHERE WHAT IT READS IS OF BULK AT MOST 1048576: true; the input reads as it did. -/
def fnExactFirstPlayUptoRow : OpenClaim := { program := "ytblihaicbhdbdaadoor", sum := "c43f096926d3e64adf52f50a815c97f40409d9003f66c424763520759be1189e", func := "loop.example/g01271/laws.FnExactFirstPlay", spec := "fnExactFirstPlay", inPlace := ["internal/bytealg.IndexByteString", "internal/bytealg.IndexString"], unfollowed := true, recurses := true, named := ["unicode/utf8.first", "unicode/utf8.acceptRanges", "internal/bytealg.MaxLen"], apart := false, laid := [("unicode/utf8.acceptRanges", laid_unicode_utf8_acceptRanges), ("unicode/utf8.first", laid_unicode_utf8_first)], narrowed := true }
def FnExactFirstPlayUptoSaid : Prop := fnExactFirstPlayUptoRow.holds Tryd.pinned (OpenSpec.upto fnExactFirstPlaySpec)

/-- 'laws.FnExactCountAllPlays', WHERE WHAT IT READS IS OF BULK AT MOST 1048576: true; the input reads as it did. -/
def fnExactCountAllPlaysUptoRow : OpenClaim := { program := "ytblihaicbhdbdaadoor", sum := "c43f096926d3e64adf52f50a815c97f40409d9003f66c424763520759be1189e", func := "loop.example/g01271/laws.FnExactCountAllPlays", spec := "fnExactCountAllPlays", inPlace := ["internal/bytealg.IndexByteString", "internal/bytealg.IndexString"], unfollowed := true, recurses := true, named := ["unicode/utf8.first", "unicode/utf8.acceptRanges", "internal/bytealg.MaxLen"], apart := false, laid := [("unicode/utf8.acceptRanges", laid_unicode_utf8_acceptRanges), ("unicode/utf8.first", laid_unicode_utf8_first)], narrowed := true }
def FnExactCountAllPlaysUptoSaid : Prop := fnExactCountAllPlaysUptoRow.holds Tryd.pinned (OpenSpec.upto fnExactCountAllPlaysSpec)

/-- 'laws.FnExactLongestGame', WHERE WHAT IT READS IS OF BULK AT MOST 1048576: true; the input reads as it did. -/
def fnExactLongestGameUptoRow : OpenClaim := { program := "ytblihaicbhdbdaadoor", sum := "c43f096926d3e64adf52f50a815c97f40409d9003f66c424763520759be1189e", func := "loop.example/g01271/laws.FnExactLongestGame", spec := "fnExactLongestGame", inPlace := ["internal/bytealg.IndexByteString", "internal/bytealg.IndexString"], unfollowed := true, recurses := true, named := ["unicode/utf8.first", "unicode/utf8.acceptRanges", "internal/bytealg.MaxLen"], apart := false, laid := [("unicode/utf8.acceptRanges", laid_unicode_utf8_acceptRanges), ("unicode/utf8.first", laid_unicode_utf8_first)], narrowed := true }
def FnExactLongestGameUptoSaid : Prop := fnExactLongestGameUptoRow.holds Tryd.pinned (OpenSpec.upto fnExactLongestGameSpec)

/-- 'laws.FnExactShortestGame', WHERE WHAT IT READS IS OF BULK AT MOST 1048576: true; the input reads as it did. -/
def fnExactShortestGameUptoRow : OpenClaim := { program := "ytblihaicbhdbdaadoor", sum := "c43f096926d3e64adf52f50a815c97f40409d9003f66c424763520759be1189e", func := "loop.example/g01271/laws.FnExactShortestGame", spec := "fnExactShortestGame", inPlace := ["internal/bytealg.IndexByteString", "internal/bytealg.IndexString"], unfollowed := true, recurses := true, named := ["unicode/utf8.first", "unicode/utf8.acceptRanges", "internal/bytealg.MaxLen"], apart := false, laid := [("unicode/utf8.acceptRanges", laid_unicode_utf8_acceptRanges), ("unicode/utf8.first", laid_unicode_utf8_first)], narrowed := true }
def FnExactShortestGameUptoSaid : Prop := fnExactShortestGameUptoRow.holds Tryd.pinned (OpenSpec.upto fnExactShortestGameSpec)

/-- 'laws.FnExactCountGames', WHERE WHAT IT READS IS OF BULK AT MOST 1048576: true; the input reads as it did. -/
def fnExactCountGamesUptoRow : OpenClaim := { program := "ytblihaicbhdbdaadoor", sum := "c43f096926d3e64adf52f50a815c97f40409d9003f66c424763520759be1189e", func := "loop.example/g01271/laws.FnExactCountGames", spec := "fnExactCountGames", inPlace := ["internal/bytealg.IndexByteString", "internal/bytealg.IndexString"], unfollowed := true, recurses := true, named := ["unicode/utf8.first", "unicode/utf8.acceptRanges", "internal/bytealg.MaxLen"], apart := false, laid := [("unicode/utf8.acceptRanges", laid_unicode_utf8_acceptRanges), ("unicode/utf8.first", laid_unicode_utf8_first)], narrowed := true }
def FnExactCountGamesUptoSaid : Prop := fnExactCountGamesUptoRow.holds Tryd.pinned (OpenSpec.upto fnExactCountGamesSpec)

end Rows
end Go.Proofs.YtblihaicbhdbdaaDoor
