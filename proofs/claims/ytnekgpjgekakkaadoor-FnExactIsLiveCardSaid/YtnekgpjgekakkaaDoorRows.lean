/-
  NARROWER THAN 'FOR EVERY INPUT', by the rows' own cells (each row's printed sentence says how): FnExactIsLive: laid · FnExactCanReach: laid · FnExactMovesBetween: laid · FnExactCanFinish: laid · FnExactLongestPlay: laid · FnExactShortestStop: laid · FnExactCountPlays: laid · FnExactCountAllPlays: laid · FnExactFirstPlay: laid · FnExactWordBetween: laid · FnExactLongestWord: laid.
  DERIVED. THE GIVEN ROWS OF THIS SEAT. 11 by the template 'for every input the law returns true; each argument reads behind the call as it read before'; 0 by the template 'total and deterministic' (their statements: YtnekgpjgekakkaaDoorTotals.lean).
  GIVEN WITH THE SEED: the statements are not yours to turn. If you find one false, say at which input.
  Laid BY PROGRAM, IN A SANDBOX (cutbox-rows.mjs): the forced cells as the released guide's own fill.sh prints them over the translation 7d2c48aa971d4b37… (all of the seat's roots in one cut). By AI agents, Wed Nov 11 2026. No macro, syntax, notation, axiom, sorry.
-/
import Derived.Test.YtnekgpjgekakkaaDoorChecked
import GoSem.PinnedTables
import GoSem.Claim
import GoSem.ClaimJoined
import GoSem.ClaimMapViews
import Derived.JoinedTies
import Derived.KernelRfl
namespace Go.Proofs.YtnekgpjgekakkaaDoor
/- THE CELL 'sum', in the pinned program and in every row, IS THE sha256 OF THE DUMP (.gsa) THAT YtnekgpjgekakkaaDoorProg.lean LOADS. Nothing in Lean hashes anything: it is a label: what it is worth is what the hold of that sum in a sandbox is worth. -/
noncomputable def Tryd.pinned : Pinned := { name := "ytnekgpjgekakkaadoor", sum := "7d2c48aa971d4b3769376ee2e8cbaa3dfc602737c9691b0dccf8bc4471d9d24a", checked := Tryd.checked }
namespace Rows
def none {H : Type} : Left H := { results := [], args := [] }

/- WHAT THE LISTED PACKAGE-LEVEL VARIABLES READ AS WHEN THE CALL BEGINS. Each datum BY PROGRAM (the guide's laid-datum.mjs) off the statement by which the dump's own 'gosem.cut.vars' lays the variable. In a bare row this is a premise. The card (YtnekgpjgekakkaaDoorCards.lean) ties it to the program's text. -/
def laid_unicode_utf8_acceptRanges {H : Type} : DataW H := .agg [.agg [.lit (.int .u8 128), .lit (.int .u8 191)], .agg [.lit (.int .u8 160), .lit (.int .u8 191)], .agg [.lit (.int .u8 128), .lit (.int .u8 159)], .agg [.lit (.int .u8 144), .lit (.int .u8 191)], .agg [.lit (.int .u8 128), .lit (.int .u8 143)], .agg [.lit (.int .u8 0), .lit (.int .u8 0)], .agg [.lit (.int .u8 0), .lit (.int .u8 0)], .agg [.lit (.int .u8 0), .lit (.int .u8 0)], .agg [.lit (.int .u8 0), .lit (.int .u8 0)], .agg [.lit (.int .u8 0), .lit (.int .u8 0)], .agg [.lit (.int .u8 0), .lit (.int .u8 0)], .agg [.lit (.int .u8 0), .lit (.int .u8 0)], .agg [.lit (.int .u8 0), .lit (.int .u8 0)], .agg [.lit (.int .u8 0), .lit (.int .u8 0)], .agg [.lit (.int .u8 0), .lit (.int .u8 0)], .agg [.lit (.int .u8 0), .lit (.int .u8 0)]]
/-- One of Go's own tables, pinned by name: the form's constant. -/
def laid_unicode_utf8_first : DataW Unit := Go.Pinned.utf8First

/-- 'laws.FnExactIsLive': WHATEVER THE INPUT: true; the input reads as it did. -/
def fnExactIsLiveSpec : ChangeSpec := { name := "fnExactIsLive", fn := fun _ => fun
  | [d] => { results := [.lit (.bool true)], args := [d] }
  | _ => none }
def fnExactIsLiveRow : OpenClaim := { program := "ytnekgpjgekakkaadoor", sum := "7d2c48aa971d4b3769376ee2e8cbaa3dfc602737c9691b0dccf8bc4471d9d24a", func := "loop.example/g01271/laws.FnExactIsLive", spec := "fnExactIsLive", inPlace := ["internal/bytealg.IndexByteString", "internal/bytealg.IndexString", "internal/bytealg.CountString", "internal/abi.NoEscape", "internal/bytealg.MakeNoZero"], recurses := true, named := ["unicode/utf8.first", "unicode/utf8.acceptRanges", "internal/bytealg.MaxLen"], apart := false, laid := [("unicode/utf8.acceptRanges", laid_unicode_utf8_acceptRanges), ("unicode/utf8.first", laid_unicode_utf8_first)] }
def FnExactIsLiveSaid : Prop := fnExactIsLiveRow.holds Tryd.pinned (OpenSpec.ofChange fnExactIsLiveSpec)

/-- ITS FALSE NEIGHBOUR: 'it returns false'. Refute it at one input. -/
def fnExactIsLiveWrong : ChangeSpec := { name := "fnExactIsLive", fn := fun _ => fun
  | [d] => { results := [.lit (.bool false)], args := [d] }
  | _ => none }
def FnExactIsLiveWrongFalsely : Prop := fnExactIsLiveRow.holds Tryd.pinned (OpenSpec.ofChange fnExactIsLiveWrong)

/-- 'laws.FnExactCanReach': WHATEVER THE INPUT: true; the input reads as it did. -/
def fnExactCanReachSpec : ChangeSpec := { name := "fnExactCanReach", fn := fun _ => fun
  | [d1, d2] => { results := [.lit (.bool true)], args := [d1, d2] }
  | _ => none }
def fnExactCanReachRow : OpenClaim := { program := "ytnekgpjgekakkaadoor", sum := "7d2c48aa971d4b3769376ee2e8cbaa3dfc602737c9691b0dccf8bc4471d9d24a", func := "loop.example/g01271/laws.FnExactCanReach", spec := "fnExactCanReach", inPlace := ["internal/bytealg.IndexByteString", "internal/bytealg.IndexString"], named := ["unicode/utf8.first", "unicode/utf8.acceptRanges", "internal/bytealg.MaxLen"], apart := false, laid := [("unicode/utf8.acceptRanges", laid_unicode_utf8_acceptRanges), ("unicode/utf8.first", laid_unicode_utf8_first)] }
def FnExactCanReachSaid : Prop := fnExactCanReachRow.holds Tryd.pinned (OpenSpec.ofChange fnExactCanReachSpec)

/-- ITS FALSE NEIGHBOUR: 'it returns false'. Refute it at one input. -/
def fnExactCanReachWrong : ChangeSpec := { name := "fnExactCanReach", fn := fun _ => fun
  | [d1, d2] => { results := [.lit (.bool false)], args := [d1, d2] }
  | _ => none }
def FnExactCanReachWrongFalsely : Prop := fnExactCanReachRow.holds Tryd.pinned (OpenSpec.ofChange fnExactCanReachWrong)

/-- 'laws.FnExactMovesBetween': WHATEVER THE INPUT: true; the input reads as it did. -/
def fnExactMovesBetweenSpec : ChangeSpec := { name := "fnExactMovesBetween", fn := fun _ => fun
  | [d1, d2] => { results := [.lit (.bool true)], args := [d1, d2] }
  | _ => none }
def fnExactMovesBetweenRow : OpenClaim := { program := "ytnekgpjgekakkaadoor", sum := "7d2c48aa971d4b3769376ee2e8cbaa3dfc602737c9691b0dccf8bc4471d9d24a", func := "loop.example/g01271/laws.FnExactMovesBetween", spec := "fnExactMovesBetween", inPlace := ["internal/bytealg.IndexByteString", "internal/bytealg.IndexString"], named := ["unicode/utf8.first", "unicode/utf8.acceptRanges", "internal/bytealg.MaxLen"], apart := false, laid := [("unicode/utf8.acceptRanges", laid_unicode_utf8_acceptRanges), ("unicode/utf8.first", laid_unicode_utf8_first)] }
def FnExactMovesBetweenSaid : Prop := fnExactMovesBetweenRow.holds Tryd.pinned (OpenSpec.ofChange fnExactMovesBetweenSpec)

/-- ITS FALSE NEIGHBOUR: 'it returns false'. Refute it at one input. -/
def fnExactMovesBetweenWrong : ChangeSpec := { name := "fnExactMovesBetween", fn := fun _ => fun
  | [d1, d2] => { results := [.lit (.bool false)], args := [d1, d2] }
  | _ => none }
def FnExactMovesBetweenWrongFalsely : Prop := fnExactMovesBetweenRow.holds Tryd.pinned (OpenSpec.ofChange fnExactMovesBetweenWrong)

/-- 'laws.FnExactCanFinish': WHATEVER THE INPUT: true; the input reads as it did. -/
def fnExactCanFinishSpec : ChangeSpec := { name := "fnExactCanFinish", fn := fun _ => fun
  | [d] => { results := [.lit (.bool true)], args := [d] }
  | _ => none }
def fnExactCanFinishRow : OpenClaim := { program := "ytnekgpjgekakkaadoor", sum := "7d2c48aa971d4b3769376ee2e8cbaa3dfc602737c9691b0dccf8bc4471d9d24a", func := "loop.example/g01271/laws.FnExactCanFinish", spec := "fnExactCanFinish", inPlace := ["internal/bytealg.CountString", "internal/bytealg.IndexByteString", "internal/bytealg.IndexString", "internal/abi.NoEscape", "internal/bytealg.MakeNoZero"], named := ["internal/bytealg.MaxLen", "unicode/utf8.first", "unicode/utf8.acceptRanges"], apart := false, laid := [("unicode/utf8.acceptRanges", laid_unicode_utf8_acceptRanges), ("unicode/utf8.first", laid_unicode_utf8_first)] }
def FnExactCanFinishSaid : Prop := fnExactCanFinishRow.holds Tryd.pinned (OpenSpec.ofChange fnExactCanFinishSpec)

/-- ITS FALSE NEIGHBOUR: 'it returns false'. Refute it at one input. -/
def fnExactCanFinishWrong : ChangeSpec := { name := "fnExactCanFinish", fn := fun _ => fun
  | [d] => { results := [.lit (.bool false)], args := [d] }
  | _ => none }
def FnExactCanFinishWrongFalsely : Prop := fnExactCanFinishRow.holds Tryd.pinned (OpenSpec.ofChange fnExactCanFinishWrong)

/-- 'laws.FnExactLongestPlay': WHATEVER THE INPUT: true; the input reads as it did. -/
def fnExactLongestPlaySpec : ChangeSpec := { name := "fnExactLongestPlay", fn := fun _ => fun
  | [d] => { results := [.lit (.bool true)], args := [d] }
  | _ => none }
def fnExactLongestPlayRow : OpenClaim := { program := "ytnekgpjgekakkaadoor", sum := "7d2c48aa971d4b3769376ee2e8cbaa3dfc602737c9691b0dccf8bc4471d9d24a", func := "loop.example/g01271/laws.FnExactLongestPlay", spec := "fnExactLongestPlay", inPlace := ["internal/bytealg.IndexByteString", "internal/bytealg.IndexString"], named := ["unicode/utf8.first", "unicode/utf8.acceptRanges", "internal/bytealg.MaxLen"], apart := false, laid := [("unicode/utf8.acceptRanges", laid_unicode_utf8_acceptRanges), ("unicode/utf8.first", laid_unicode_utf8_first)] }
def FnExactLongestPlaySaid : Prop := fnExactLongestPlayRow.holds Tryd.pinned (OpenSpec.ofChange fnExactLongestPlaySpec)

/-- ITS FALSE NEIGHBOUR: 'it returns false'. Refute it at one input. -/
def fnExactLongestPlayWrong : ChangeSpec := { name := "fnExactLongestPlay", fn := fun _ => fun
  | [d] => { results := [.lit (.bool false)], args := [d] }
  | _ => none }
def FnExactLongestPlayWrongFalsely : Prop := fnExactLongestPlayRow.holds Tryd.pinned (OpenSpec.ofChange fnExactLongestPlayWrong)

/-- 'laws.FnExactShortestStop': WHATEVER THE INPUT: true; the input reads as it did. -/
def fnExactShortestStopSpec : ChangeSpec := { name := "fnExactShortestStop", fn := fun _ => fun
  | [d] => { results := [.lit (.bool true)], args := [d] }
  | _ => none }
def fnExactShortestStopRow : OpenClaim := { program := "ytnekgpjgekakkaadoor", sum := "7d2c48aa971d4b3769376ee2e8cbaa3dfc602737c9691b0dccf8bc4471d9d24a", func := "loop.example/g01271/laws.FnExactShortestStop", spec := "fnExactShortestStop", inPlace := ["internal/bytealg.IndexByteString", "internal/bytealg.IndexString"], named := ["unicode/utf8.first", "unicode/utf8.acceptRanges", "internal/bytealg.MaxLen"], apart := false, laid := [("unicode/utf8.acceptRanges", laid_unicode_utf8_acceptRanges), ("unicode/utf8.first", laid_unicode_utf8_first)] }
def FnExactShortestStopSaid : Prop := fnExactShortestStopRow.holds Tryd.pinned (OpenSpec.ofChange fnExactShortestStopSpec)

/-- ITS FALSE NEIGHBOUR: 'it returns false'. Refute it at one input. -/
def fnExactShortestStopWrong : ChangeSpec := { name := "fnExactShortestStop", fn := fun _ => fun
  | [d] => { results := [.lit (.bool false)], args := [d] }
  | _ => none }
def FnExactShortestStopWrongFalsely : Prop := fnExactShortestStopRow.holds Tryd.pinned (OpenSpec.ofChange fnExactShortestStopWrong)

/-- 'laws.FnExactCountPlays': WHATEVER THE INPUT: true; the input reads as it did. -/
def fnExactCountPlaysSpec : ChangeSpec := { name := "fnExactCountPlays", fn := fun _ => fun
  | [d1, d2] => { results := [.lit (.bool true)], args := [d1, d2] }
  | _ => none }
def fnExactCountPlaysRow : OpenClaim := { program := "ytnekgpjgekakkaadoor", sum := "7d2c48aa971d4b3769376ee2e8cbaa3dfc602737c9691b0dccf8bc4471d9d24a", func := "loop.example/g01271/laws.FnExactCountPlays", spec := "fnExactCountPlays", inPlace := ["internal/bytealg.IndexByteString", "internal/bytealg.IndexString"], recurses := true, named := ["unicode/utf8.first", "unicode/utf8.acceptRanges", "internal/bytealg.MaxLen"], apart := false, laid := [("unicode/utf8.acceptRanges", laid_unicode_utf8_acceptRanges), ("unicode/utf8.first", laid_unicode_utf8_first)] }
def FnExactCountPlaysSaid : Prop := fnExactCountPlaysRow.holds Tryd.pinned (OpenSpec.ofChange fnExactCountPlaysSpec)

/-- ITS FALSE NEIGHBOUR: 'it returns false'. Refute it at one input. -/
def fnExactCountPlaysWrong : ChangeSpec := { name := "fnExactCountPlays", fn := fun _ => fun
  | [d1, d2] => { results := [.lit (.bool false)], args := [d1, d2] }
  | _ => none }
def FnExactCountPlaysWrongFalsely : Prop := fnExactCountPlaysRow.holds Tryd.pinned (OpenSpec.ofChange fnExactCountPlaysWrong)

/-- 'laws.FnExactCountAllPlays': WHATEVER THE INPUT: true; the input reads as it did. -/
def fnExactCountAllPlaysSpec : ChangeSpec := { name := "fnExactCountAllPlays", fn := fun _ => fun
  | [d] => { results := [.lit (.bool true)], args := [d] }
  | _ => none }
def fnExactCountAllPlaysRow : OpenClaim := { program := "ytnekgpjgekakkaadoor", sum := "7d2c48aa971d4b3769376ee2e8cbaa3dfc602737c9691b0dccf8bc4471d9d24a", func := "loop.example/g01271/laws.FnExactCountAllPlays", spec := "fnExactCountAllPlays", inPlace := ["internal/bytealg.IndexByteString", "internal/bytealg.IndexString"], unfollowed := true, recurses := true, named := ["unicode/utf8.first", "unicode/utf8.acceptRanges", "internal/bytealg.MaxLen"], apart := false, laid := [("unicode/utf8.acceptRanges", laid_unicode_utf8_acceptRanges), ("unicode/utf8.first", laid_unicode_utf8_first)] }
def FnExactCountAllPlaysSaid : Prop := fnExactCountAllPlaysRow.holds Tryd.pinned (OpenSpec.ofChange fnExactCountAllPlaysSpec)

/-- ITS FALSE NEIGHBOUR: 'it returns false'. Refute it at one input. -/
def fnExactCountAllPlaysWrong : ChangeSpec := { name := "fnExactCountAllPlays", fn := fun _ => fun
  | [d] => { results := [.lit (.bool false)], args := [d] }
  | _ => none }
def FnExactCountAllPlaysWrongFalsely : Prop := fnExactCountAllPlaysRow.holds Tryd.pinned (OpenSpec.ofChange fnExactCountAllPlaysWrong)

/-- 'laws.FnExactFirstPlay': WHATEVER THE INPUT: true; the input reads as it did. -/
def fnExactFirstPlaySpec : ChangeSpec := { name := "fnExactFirstPlay", fn := fun _ => fun
  | [d1, d2] => { results := [.lit (.bool true)], args := [d1, d2] }
  | _ => none }
def fnExactFirstPlayRow : OpenClaim := { program := "ytnekgpjgekakkaadoor", sum := "7d2c48aa971d4b3769376ee2e8cbaa3dfc602737c9691b0dccf8bc4471d9d24a", func := "loop.example/g01271/laws.FnExactFirstPlay", spec := "fnExactFirstPlay", inPlace := ["internal/bytealg.IndexByteString", "internal/bytealg.IndexString"], unfollowed := true, recurses := true, named := ["unicode/utf8.first", "unicode/utf8.acceptRanges", "internal/bytealg.MaxLen"], apart := false, laid := [("unicode/utf8.acceptRanges", laid_unicode_utf8_acceptRanges), ("unicode/utf8.first", laid_unicode_utf8_first)] }
def FnExactFirstPlaySaid : Prop := fnExactFirstPlayRow.holds Tryd.pinned (OpenSpec.ofChange fnExactFirstPlaySpec)

/-- ITS FALSE NEIGHBOUR: 'it returns false'. Refute it at one input. -/
def fnExactFirstPlayWrong : ChangeSpec := { name := "fnExactFirstPlay", fn := fun _ => fun
  | [d1, d2] => { results := [.lit (.bool false)], args := [d1, d2] }
  | _ => none }
def FnExactFirstPlayWrongFalsely : Prop := fnExactFirstPlayRow.holds Tryd.pinned (OpenSpec.ofChange fnExactFirstPlayWrong)

/-- 'laws.FnExactWordBetween': WHATEVER THE INPUT: true; the input reads as it did. -/
def fnExactWordBetweenSpec : ChangeSpec := { name := "fnExactWordBetween", fn := fun _ => fun
  | [d1, d2] => { results := [.lit (.bool true)], args := [d1, d2] }
  | _ => none }
def fnExactWordBetweenRow : OpenClaim := { program := "ytnekgpjgekakkaadoor", sum := "7d2c48aa971d4b3769376ee2e8cbaa3dfc602737c9691b0dccf8bc4471d9d24a", func := "loop.example/g01271/laws.FnExactWordBetween", spec := "fnExactWordBetween", inPlace := ["internal/bytealg.IndexByteString", "internal/bytealg.IndexString", "internal/bytealg.CountString"], recurses := true, named := ["unicode/utf8.first", "unicode/utf8.acceptRanges", "internal/bytealg.MaxLen"], apart := false, laid := [("unicode/utf8.acceptRanges", laid_unicode_utf8_acceptRanges), ("unicode/utf8.first", laid_unicode_utf8_first)] }
def FnExactWordBetweenSaid : Prop := fnExactWordBetweenRow.holds Tryd.pinned (OpenSpec.ofChange fnExactWordBetweenSpec)

/-- ITS FALSE NEIGHBOUR: 'it returns false'. Refute it at one input. -/
def fnExactWordBetweenWrong : ChangeSpec := { name := "fnExactWordBetween", fn := fun _ => fun
  | [d1, d2] => { results := [.lit (.bool false)], args := [d1, d2] }
  | _ => none }
def FnExactWordBetweenWrongFalsely : Prop := fnExactWordBetweenRow.holds Tryd.pinned (OpenSpec.ofChange fnExactWordBetweenWrong)

/-- 'laws.FnExactLongestWord': WHATEVER THE INPUT: true; the input reads as it did. -/
def fnExactLongestWordSpec : ChangeSpec := { name := "fnExactLongestWord", fn := fun _ => fun
  | [d] => { results := [.lit (.bool true)], args := [d] }
  | _ => none }
def fnExactLongestWordRow : OpenClaim := { program := "ytnekgpjgekakkaadoor", sum := "7d2c48aa971d4b3769376ee2e8cbaa3dfc602737c9691b0dccf8bc4471d9d24a", func := "loop.example/g01271/laws.FnExactLongestWord", spec := "fnExactLongestWord", inPlace := ["internal/bytealg.IndexByteString", "internal/bytealg.IndexString", "internal/bytealg.CountString"], unfollowed := true, recurses := true, named := ["unicode/utf8.first", "unicode/utf8.acceptRanges", "internal/bytealg.MaxLen"], apart := false, laid := [("unicode/utf8.acceptRanges", laid_unicode_utf8_acceptRanges), ("unicode/utf8.first", laid_unicode_utf8_first)] }
def FnExactLongestWordSaid : Prop := fnExactLongestWordRow.holds Tryd.pinned (OpenSpec.ofChange fnExactLongestWordSpec)

/-- ITS FALSE NEIGHBOUR: 'it returns false'. Refute it at one input. -/
def fnExactLongestWordWrong : ChangeSpec := { name := "fnExactLongestWord", fn := fun _ => fun
  | [d] => { results := [.lit (.bool false)], args := [d] }
  | _ => none }
def FnExactLongestWordWrongFalsely : Prop := fnExactLongestWordRow.holds Tryd.pinned (OpenSpec.ofChange fnExactLongestWordWrong)

/- THE SECOND FORM. 'bulk': how many values and letters a reading holds, each counted each time it is reached (what is shared counts as often as it is met; a slice's spare places count too). A statement '..UptoSaid' is the law's where the arguments, and the package variables that the reading takes, are together of bulk at most 1048576: NARROWER than '..Said'. Prove '..Said' where nothing that the law and all that it calls make is longer than what came in: it says more and counts as full. Else prove '..UptoSaid'. A law counts once. -/
mutual
def uptoBulk {H : Type} : DataW H → Nat
  | .lit (.string bytes) => bytes.length + 1
  | .lit _ => 1
  | .nil => 1
  | .ptr d => uptoBulk d + 1
  | .slice elems spare => uptoBulkAll elems + uptoBulkAll spare + 1
  | .agg parts => uptoBulkAll parts + 1
  | .iface _ d => uptoBulk d + 1
  | .map entries => uptoBulkEntries entries + 1
  | .held _ => 1
def uptoBulkAll {H : Type} : List (DataW H) → Nat
  | [] => 0
  | d :: r => uptoBulk d + uptoBulkAll r
def uptoBulkEntries {H : Type} : List (Lit × DataW H) → Nat
  | [] => 0
  | x :: r => uptoBulkEntry x + uptoBulkEntries r
def uptoBulkEntry {H : Type} : Lit × DataW H → Nat
  | (.string bytes, d) => bytes.length + uptoBulk d + 1
  | (_, d) => uptoBulk d + 1
 end
def uptoSmall : (H : Type) → List (DataW H) → Bool := fun _ ds => decide (uptoBulkAll ds ≤ 1048576)
def OpenSpec.upto (s : _root_.Go.ChangeSpec) : _root_.Go.OpenSpec := { _root_.Go.OpenSpec.ofChange s with cond := some uptoSmall }

/-- 'laws.FnExactIsLive', WHERE WHAT IT READS IS OF BULK AT MOST 1048576: true; the input reads as it did. -/
def fnExactIsLiveUptoRow : OpenClaim := { program := "ytnekgpjgekakkaadoor", sum := "7d2c48aa971d4b3769376ee2e8cbaa3dfc602737c9691b0dccf8bc4471d9d24a", func := "loop.example/g01271/laws.FnExactIsLive", spec := "fnExactIsLive", inPlace := ["internal/bytealg.IndexByteString", "internal/bytealg.IndexString", "internal/bytealg.CountString", "internal/abi.NoEscape", "internal/bytealg.MakeNoZero"], recurses := true, named := ["unicode/utf8.first", "unicode/utf8.acceptRanges", "internal/bytealg.MaxLen"], apart := false, laid := [("unicode/utf8.acceptRanges", laid_unicode_utf8_acceptRanges), ("unicode/utf8.first", laid_unicode_utf8_first)], narrowed := true }
def FnExactIsLiveUptoSaid : Prop := fnExactIsLiveUptoRow.holds Tryd.pinned (OpenSpec.upto fnExactIsLiveSpec)

/-- 'laws.FnExactCanReach', WHERE WHAT IT READS IS OF BULK AT MOST 1048576: true; the input reads as it did. -/
def fnExactCanReachUptoRow : OpenClaim := { program := "ytnekgpjgekakkaadoor", sum := "7d2c48aa971d4b3769376ee2e8cbaa3dfc602737c9691b0dccf8bc4471d9d24a", func := "loop.example/g01271/laws.FnExactCanReach", spec := "fnExactCanReach", inPlace := ["internal/bytealg.IndexByteString", "internal/bytealg.IndexString"], named := ["unicode/utf8.first", "unicode/utf8.acceptRanges", "internal/bytealg.MaxLen"], apart := false, laid := [("unicode/utf8.acceptRanges", laid_unicode_utf8_acceptRanges), ("unicode/utf8.first", laid_unicode_utf8_first)], narrowed := true }
def FnExactCanReachUptoSaid : Prop := fnExactCanReachUptoRow.holds Tryd.pinned (OpenSpec.upto fnExactCanReachSpec)

/-- 'laws.FnExactMovesBetween', WHERE WHAT IT READS IS OF BULK AT MOST 1048576: true; the input reads as it did. -/
def fnExactMovesBetweenUptoRow : OpenClaim := { program := "ytnekgpjgekakkaadoor", sum := "7d2c48aa971d4b3769376ee2e8cbaa3dfc602737c9691b0dccf8bc4471d9d24a", func := "loop.example/g01271/laws.FnExactMovesBetween", spec := "fnExactMovesBetween", inPlace := ["internal/bytealg.IndexByteString", "internal/bytealg.IndexString"], named := ["unicode/utf8.first", "unicode/utf8.acceptRanges", "internal/bytealg.MaxLen"], apart := false, laid := [("unicode/utf8.acceptRanges", laid_unicode_utf8_acceptRanges), ("unicode/utf8.first", laid_unicode_utf8_first)], narrowed := true }
def FnExactMovesBetweenUptoSaid : Prop := fnExactMovesBetweenUptoRow.holds Tryd.pinned (OpenSpec.upto fnExactMovesBetweenSpec)

/-- 'laws.FnExactCanFinish', WHERE WHAT IT READS IS OF BULK AT MOST 1048576: true; the input reads as it did. -/
def fnExactCanFinishUptoRow : OpenClaim := { program := "ytnekgpjgekakkaadoor", sum := "7d2c48aa971d4b3769376ee2e8cbaa3dfc602737c9691b0dccf8bc4471d9d24a", func := "loop.example/g01271/laws.FnExactCanFinish", spec := "fnExactCanFinish", inPlace := ["internal/bytealg.CountString", "internal/bytealg.IndexByteString", "internal/bytealg.IndexString", "internal/abi.NoEscape", "internal/bytealg.MakeNoZero"], named := ["internal/bytealg.MaxLen", "unicode/utf8.first", "unicode/utf8.acceptRanges"], apart := false, laid := [("unicode/utf8.acceptRanges", laid_unicode_utf8_acceptRanges), ("unicode/utf8.first", laid_unicode_utf8_first)], narrowed := true }
def FnExactCanFinishUptoSaid : Prop := fnExactCanFinishUptoRow.holds Tryd.pinned (OpenSpec.upto fnExactCanFinishSpec)

/-- 'laws.FnExactLongestPlay', WHERE WHAT IT READS IS OF BULK AT MOST 1048576: true; the input reads as it did. -/
def fnExactLongestPlayUptoRow : OpenClaim := { program := "ytnekgpjgekakkaadoor", sum := "7d2c48aa971d4b3769376ee2e8cbaa3dfc602737c9691b0dccf8bc4471d9d24a", func := "loop.example/g01271/laws.FnExactLongestPlay", spec := "fnExactLongestPlay", inPlace := ["internal/bytealg.IndexByteString", "internal/bytealg.IndexString"], named := ["unicode/utf8.first", "unicode/utf8.acceptRanges", "internal/bytealg.MaxLen"], apart := false, laid := [("unicode/utf8.acceptRanges", laid_unicode_utf8_acceptRanges), ("unicode/utf8.first", laid_unicode_utf8_first)], narrowed := true }
def FnExactLongestPlayUptoSaid : Prop := fnExactLongestPlayUptoRow.holds Tryd.pinned (OpenSpec.upto fnExactLongestPlaySpec)

/-- 'laws.FnExactShortestStop', WHERE WHAT IT READS IS OF BULK AT MOST 1048576: true; the input reads as it did. -/
def fnExactShortestStopUptoRow : OpenClaim := { program := "ytnekgpjgekakkaadoor", sum := "7d2c48aa971d4b3769376ee2e8cbaa3dfc602737c9691b0dccf8bc4471d9d24a", func := "loop.example/g01271/laws.FnExactShortestStop", spec := "fnExactShortestStop", inPlace := ["internal/bytealg.IndexByteString", "internal/bytealg.IndexString"], named := ["unicode/utf8.first", "unicode/utf8.acceptRanges", "internal/bytealg.MaxLen"], apart := false, laid := [("unicode/utf8.acceptRanges", laid_unicode_utf8_acceptRanges), ("unicode/utf8.first", laid_unicode_utf8_first)], narrowed := true }
def FnExactShortestStopUptoSaid : Prop := fnExactShortestStopUptoRow.holds Tryd.pinned (OpenSpec.upto fnExactShortestStopSpec)

/-- 'laws.FnExactCountPlays', WHERE WHAT IT READS IS OF BULK AT MOST 1048576: true; the input reads as it did. -/
def fnExactCountPlaysUptoRow : OpenClaim := { program := "ytnekgpjgekakkaadoor", sum := "7d2c48aa971d4b3769376ee2e8cbaa3dfc602737c9691b0dccf8bc4471d9d24a", func := "loop.example/g01271/laws.FnExactCountPlays", spec := "fnExactCountPlays", inPlace := ["internal/bytealg.IndexByteString", "internal/bytealg.IndexString"], recurses := true, named := ["unicode/utf8.first", "unicode/utf8.acceptRanges", "internal/bytealg.MaxLen"], apart := false, laid := [("unicode/utf8.acceptRanges", laid_unicode_utf8_acceptRanges), ("unicode/utf8.first", laid_unicode_utf8_first)], narrowed := true }
def FnExactCountPlaysUptoSaid : Prop := fnExactCountPlaysUptoRow.holds Tryd.pinned (OpenSpec.upto fnExactCountPlaysSpec)

/-- 'laws.FnExactCountAllPlays', WHERE WHAT IT READS IS OF BULK AT MOST 1048576: true; the input reads as it did. -/
def fnExactCountAllPlaysUptoRow : OpenClaim := { program := "ytnekgpjgekakkaadoor", sum := "7d2c48aa971d4b3769376ee2e8cbaa3dfc602737c9691b0dccf8bc4471d9d24a", func := "loop.example/g01271/laws.FnExactCountAllPlays", spec := "fnExactCountAllPlays", inPlace := ["internal/bytealg.IndexByteString", "internal/bytealg.IndexString"], unfollowed := true, recurses := true, named := ["unicode/utf8.first", "unicode/utf8.acceptRanges", "internal/bytealg.MaxLen"], apart := false, laid := [("unicode/utf8.acceptRanges", laid_unicode_utf8_acceptRanges), ("unicode/utf8.first", laid_unicode_utf8_first)], narrowed := true }
def FnExactCountAllPlaysUptoSaid : Prop := fnExactCountAllPlaysUptoRow.holds Tryd.pinned (OpenSpec.upto fnExactCountAllPlaysSpec)

/-- 'laws.FnExactFirstPlay', WHERE WHAT IT READS IS OF BULK AT MOST 1048576: true; the input reads as it did. -/
def fnExactFirstPlayUptoRow : OpenClaim := { program := "ytnekgpjgekakkaadoor", sum := "7d2c48aa971d4b3769376ee2e8cbaa3dfc602737c9691b0dccf8bc4471d9d24a", func := "loop.example/g01271/laws.FnExactFirstPlay", spec := "fnExactFirstPlay", inPlace := ["internal/bytealg.IndexByteString", "internal/bytealg.IndexString"], unfollowed := true, recurses := true, named := ["unicode/utf8.first", "unicode/utf8.acceptRanges", "internal/bytealg.MaxLen"], apart := false, laid := [("unicode/utf8.acceptRanges", laid_unicode_utf8_acceptRanges), ("unicode/utf8.first", laid_unicode_utf8_first)], narrowed := true }
def FnExactFirstPlayUptoSaid : Prop := fnExactFirstPlayUptoRow.holds Tryd.pinned (OpenSpec.upto fnExactFirstPlaySpec)

/-- 'laws.FnExactWordBetween', WHERE WHAT IT READS IS OF BULK AT MOST 1048576: true; the input reads as it did. -/
def fnExactWordBetweenUptoRow : OpenClaim := { program := "ytnekgpjgekakkaadoor", sum := "7d2c48aa971d4b3769376ee2e8cbaa3dfc602737c9691b0dccf8bc4471d9d24a", func := "loop.example/g01271/laws.FnExactWordBetween", spec := "fnExactWordBetween", inPlace := ["internal/bytealg.IndexByteString", "internal/bytealg.IndexString", "internal/bytealg.CountString"], recurses := true, named := ["unicode/utf8.first", "unicode/utf8.acceptRanges", "internal/bytealg.MaxLen"], apart := false, laid := [("unicode/utf8.acceptRanges", laid_unicode_utf8_acceptRanges), ("unicode/utf8.first", laid_unicode_utf8_first)], narrowed := true }
def FnExactWordBetweenUptoSaid : Prop := fnExactWordBetweenUptoRow.holds Tryd.pinned (OpenSpec.upto fnExactWordBetweenSpec)

/-- 'laws.FnExactLongestWord', WHERE WHAT IT READS IS OF BULK AT MOST 1048576: true; the input reads as it did. -/
def fnExactLongestWordUptoRow : OpenClaim := { program := "ytnekgpjgekakkaadoor", sum := "7d2c48aa971d4b3769376ee2e8cbaa3dfc602737c9691b0dccf8bc4471d9d24a", func := "loop.example/g01271/laws.FnExactLongestWord", spec := "fnExactLongestWord", inPlace := ["internal/bytealg.IndexByteString", "internal/bytealg.IndexString", "internal/bytealg.CountString"], unfollowed := true, recurses := true, named := ["unicode/utf8.first", "unicode/utf8.acceptRanges", "internal/bytealg.MaxLen"], apart := false, laid := [("unicode/utf8.acceptRanges", laid_unicode_utf8_acceptRanges), ("unicode/utf8.first", laid_unicode_utf8_first)], narrowed := true }
def FnExactLongestWordUptoSaid : Prop := fnExactLongestWordUptoRow.holds Tryd.pinned (OpenSpec.upto fnExactLongestWordSpec)

end Rows
end Go.Proofs.YtnekgpjgekakkaaDoor
