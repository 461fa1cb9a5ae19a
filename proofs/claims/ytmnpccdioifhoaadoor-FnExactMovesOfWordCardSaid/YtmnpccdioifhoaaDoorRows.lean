/-
  NARROWER THAN 'FOR EVERY INPUT', by the rows' own cells (each row's printed sentence says how): FnExactOtherLine: laid · FnExactMirrorRing: laid · FnExactOtherBoard: laid · FnExactIsBlocked: laid · FnExactMovesOf: laid · FnExactToadMoves: laid · FnExactFrogMoves: laid · FnExactCanPlay: laid · FnExactPlayWord: laid · FnExactSignThatFails: laid · FnExactMovesOfWord: laid.
  DERIVED. THE GIVEN ROWS OF THIS SEAT. 11 by the template 'for every input the law returns true; each argument reads behind the call as it read before'; 0 by the template 'total and deterministic' (their statements: YtmnpccdioifhoaaDoorTotals.lean).
  GIVEN WITH THE SEED: the statements are not yours to turn. If you find one false, say at which input.
  Laid BY PROGRAM, IN A SANDBOX (cutbox-rows.mjs): the forced cells as the released guide's own fill.sh prints them over the translation 49409c0a79d46f66… (all of the seat's roots in one cut). By AI agents, Wed Nov 11 2026. No macro, syntax, notation, axiom, sorry.
-/
import Derived.Test.YtmnpccdioifhoaaDoorChecked
import GoSem.PinnedTables
import GoSem.Claim
import GoSem.ClaimJoined
import GoSem.ClaimMapViews
import Derived.JoinedTies
import Derived.KernelRfl
namespace Go.Proofs.YtmnpccdioifhoaaDoor
/- THE CELL 'sum', in the pinned program and in every row, IS THE sha256 OF THE DUMP (.gsa) THAT YtmnpccdioifhoaaDoorProg.lean LOADS. Nothing in Lean hashes anything: it is a label: what it is worth is what the hold of that sum in a sandbox is worth. -/
noncomputable def Tryd.pinned : Pinned := { name := "ytmnpccdioifhoaadoor", sum := "49409c0a79d46f66bf05e3306a2ceec9890e3e23bc7bc1dd89293e5642b4d806", checked := Tryd.checked }
namespace Rows
def none {H : Type} : Left H := { results := [], args := [] }

/- WHAT THE LISTED PACKAGE-LEVEL VARIABLES READ AS WHEN THE CALL BEGINS. Each datum BY PROGRAM (the guide's laid-datum.mjs) off the statement by which the dump's own 'gosem.cut.vars' lays the variable. In a bare row this is a premise. The card (YtmnpccdioifhoaaDoorCards.lean) ties it to the program's text. -/
def laid_unicode_utf8_acceptRanges {H : Type} : DataW H := .agg [.agg [.lit (.int .u8 128), .lit (.int .u8 191)], .agg [.lit (.int .u8 160), .lit (.int .u8 191)], .agg [.lit (.int .u8 128), .lit (.int .u8 159)], .agg [.lit (.int .u8 144), .lit (.int .u8 191)], .agg [.lit (.int .u8 128), .lit (.int .u8 143)], .agg [.lit (.int .u8 0), .lit (.int .u8 0)], .agg [.lit (.int .u8 0), .lit (.int .u8 0)], .agg [.lit (.int .u8 0), .lit (.int .u8 0)], .agg [.lit (.int .u8 0), .lit (.int .u8 0)], .agg [.lit (.int .u8 0), .lit (.int .u8 0)], .agg [.lit (.int .u8 0), .lit (.int .u8 0)], .agg [.lit (.int .u8 0), .lit (.int .u8 0)], .agg [.lit (.int .u8 0), .lit (.int .u8 0)], .agg [.lit (.int .u8 0), .lit (.int .u8 0)], .agg [.lit (.int .u8 0), .lit (.int .u8 0)], .agg [.lit (.int .u8 0), .lit (.int .u8 0)]]
/-- One of Go's own tables, pinned by name: the form's constant. -/
def laid_unicode_utf8_first : DataW Unit := Go.Pinned.utf8First

/-- 'laws.FnExactOtherLine': WHATEVER THE INPUT: true; the input reads as it did. -/
def fnExactOtherLineSpec : ChangeSpec := { name := "fnExactOtherLine", fn := fun _ => fun
  | [d] => { results := [.lit (.bool true)], args := [d] }
  | _ => none }
def fnExactOtherLineRow : OpenClaim := { program := "ytmnpccdioifhoaadoor", sum := "49409c0a79d46f66bf05e3306a2ceec9890e3e23bc7bc1dd89293e5642b4d806", func := "loop.example/g01271/laws.FnExactOtherLine", spec := "fnExactOtherLine", inPlace := ["internal/bytealg.IndexByteString", "internal/bytealg.IndexString"], named := ["unicode/utf8.first", "unicode/utf8.acceptRanges", "internal/bytealg.MaxLen"], apart := false, laid := [("unicode/utf8.acceptRanges", laid_unicode_utf8_acceptRanges), ("unicode/utf8.first", laid_unicode_utf8_first)] }
def FnExactOtherLineSaid : Prop := fnExactOtherLineRow.holds Tryd.pinned (OpenSpec.ofChange fnExactOtherLineSpec)

/-- ITS FALSE NEIGHBOUR: 'it returns false'. Refute it at one input. -/
def fnExactOtherLineWrong : ChangeSpec := { name := "fnExactOtherLine", fn := fun _ => fun
  | [d] => { results := [.lit (.bool false)], args := [d] }
  | _ => none }
def FnExactOtherLineWrongFalsely : Prop := fnExactOtherLineRow.holds Tryd.pinned (OpenSpec.ofChange fnExactOtherLineWrong)

/-- 'laws.FnExactMirrorRing': WHATEVER THE INPUT: true; the input reads as it did. -/
def fnExactMirrorRingSpec : ChangeSpec := { name := "fnExactMirrorRing", fn := fun _ => fun
  | [d] => { results := [.lit (.bool true)], args := [d] }
  | _ => none }
def fnExactMirrorRingRow : OpenClaim := { program := "ytmnpccdioifhoaadoor", sum := "49409c0a79d46f66bf05e3306a2ceec9890e3e23bc7bc1dd89293e5642b4d806", func := "loop.example/g01271/laws.FnExactMirrorRing", spec := "fnExactMirrorRing", inPlace := ["internal/bytealg.IndexByteString", "internal/bytealg.IndexString"], named := ["unicode/utf8.first", "unicode/utf8.acceptRanges", "internal/bytealg.MaxLen"], apart := false, laid := [("unicode/utf8.acceptRanges", laid_unicode_utf8_acceptRanges), ("unicode/utf8.first", laid_unicode_utf8_first)] }
def FnExactMirrorRingSaid : Prop := fnExactMirrorRingRow.holds Tryd.pinned (OpenSpec.ofChange fnExactMirrorRingSpec)

/-- ITS FALSE NEIGHBOUR: 'it returns false'. Refute it at one input. -/
def fnExactMirrorRingWrong : ChangeSpec := { name := "fnExactMirrorRing", fn := fun _ => fun
  | [d] => { results := [.lit (.bool false)], args := [d] }
  | _ => none }
def FnExactMirrorRingWrongFalsely : Prop := fnExactMirrorRingRow.holds Tryd.pinned (OpenSpec.ofChange fnExactMirrorRingWrong)

/-- 'laws.FnExactOtherBoard': WHATEVER THE INPUT: true; the input reads as it did. -/
def fnExactOtherBoardSpec : ChangeSpec := { name := "fnExactOtherBoard", fn := fun _ => fun
  | [d] => { results := [.lit (.bool true)], args := [d] }
  | _ => none }
def fnExactOtherBoardRow : OpenClaim := { program := "ytmnpccdioifhoaadoor", sum := "49409c0a79d46f66bf05e3306a2ceec9890e3e23bc7bc1dd89293e5642b4d806", func := "loop.example/g01271/laws.FnExactOtherBoard", spec := "fnExactOtherBoard", inPlace := ["internal/bytealg.CountString", "internal/bytealg.IndexByteString", "internal/bytealg.IndexString"], unfollowed := true, recurses := true, named := ["unicode/utf8.first", "unicode/utf8.acceptRanges", "internal/bytealg.MaxLen"], apart := false, laid := [("unicode/utf8.acceptRanges", laid_unicode_utf8_acceptRanges), ("unicode/utf8.first", laid_unicode_utf8_first)] }
def FnExactOtherBoardSaid : Prop := fnExactOtherBoardRow.holds Tryd.pinned (OpenSpec.ofChange fnExactOtherBoardSpec)

/-- ITS FALSE NEIGHBOUR: 'it returns false'. Refute it at one input. -/
def fnExactOtherBoardWrong : ChangeSpec := { name := "fnExactOtherBoard", fn := fun _ => fun
  | [d] => { results := [.lit (.bool false)], args := [d] }
  | _ => none }
def FnExactOtherBoardWrongFalsely : Prop := fnExactOtherBoardRow.holds Tryd.pinned (OpenSpec.ofChange fnExactOtherBoardWrong)

/-- 'laws.FnExactIsBlocked': WHATEVER THE INPUT: true; the input reads as it did. -/
def fnExactIsBlockedSpec : ChangeSpec := { name := "fnExactIsBlocked", fn := fun _ => fun
  | [d] => { results := [.lit (.bool true)], args := [d] }
  | _ => none }
def fnExactIsBlockedRow : OpenClaim := { program := "ytmnpccdioifhoaadoor", sum := "49409c0a79d46f66bf05e3306a2ceec9890e3e23bc7bc1dd89293e5642b4d806", func := "loop.example/g01271/laws.FnExactIsBlocked", spec := "fnExactIsBlocked", inPlace := ["internal/bytealg.IndexByteString", "internal/bytealg.IndexString"], named := ["unicode/utf8.first", "unicode/utf8.acceptRanges", "internal/bytealg.MaxLen"], apart := false, laid := [("unicode/utf8.acceptRanges", laid_unicode_utf8_acceptRanges), ("unicode/utf8.first", laid_unicode_utf8_first)] }
def FnExactIsBlockedSaid : Prop := fnExactIsBlockedRow.holds Tryd.pinned (OpenSpec.ofChange fnExactIsBlockedSpec)

/-- ITS FALSE NEIGHBOUR: 'it returns false'. Refute it at one input. -/
def fnExactIsBlockedWrong : ChangeSpec := { name := "fnExactIsBlocked", fn := fun _ => fun
  | [d] => { results := [.lit (.bool false)], args := [d] }
  | _ => none }
def FnExactIsBlockedWrongFalsely : Prop := fnExactIsBlockedRow.holds Tryd.pinned (OpenSpec.ofChange fnExactIsBlockedWrong)

/-- 'laws.FnExactMovesOf': WHATEVER THE INPUT: true; the input reads as it did. -/
def fnExactMovesOfSpec : ChangeSpec := { name := "fnExactMovesOf", fn := fun _ => fun
  | [d] => { results := [.lit (.bool true)], args := [d] }
  | _ => none }
def fnExactMovesOfRow : OpenClaim := { program := "ytmnpccdioifhoaadoor", sum := "49409c0a79d46f66bf05e3306a2ceec9890e3e23bc7bc1dd89293e5642b4d806", func := "loop.example/g01271/laws.FnExactMovesOf", spec := "fnExactMovesOf", inPlace := ["internal/bytealg.IndexByteString", "internal/bytealg.IndexString"], named := ["unicode/utf8.first", "unicode/utf8.acceptRanges", "internal/bytealg.MaxLen"], apart := false, laid := [("unicode/utf8.acceptRanges", laid_unicode_utf8_acceptRanges), ("unicode/utf8.first", laid_unicode_utf8_first)] }
def FnExactMovesOfSaid : Prop := fnExactMovesOfRow.holds Tryd.pinned (OpenSpec.ofChange fnExactMovesOfSpec)

/-- ITS FALSE NEIGHBOUR: 'it returns false'. Refute it at one input. -/
def fnExactMovesOfWrong : ChangeSpec := { name := "fnExactMovesOf", fn := fun _ => fun
  | [d] => { results := [.lit (.bool false)], args := [d] }
  | _ => none }
def FnExactMovesOfWrongFalsely : Prop := fnExactMovesOfRow.holds Tryd.pinned (OpenSpec.ofChange fnExactMovesOfWrong)

/-- 'laws.FnExactToadMoves': WHATEVER THE INPUT: true; the input reads as it did. -/
def fnExactToadMovesSpec : ChangeSpec := { name := "fnExactToadMoves", fn := fun _ => fun
  | [d] => { results := [.lit (.bool true)], args := [d] }
  | _ => none }
def fnExactToadMovesRow : OpenClaim := { program := "ytmnpccdioifhoaadoor", sum := "49409c0a79d46f66bf05e3306a2ceec9890e3e23bc7bc1dd89293e5642b4d806", func := "loop.example/g01271/laws.FnExactToadMoves", spec := "fnExactToadMoves", inPlace := ["internal/bytealg.IndexByteString", "internal/bytealg.IndexString"], named := ["unicode/utf8.first", "unicode/utf8.acceptRanges", "internal/bytealg.MaxLen"], apart := false, laid := [("unicode/utf8.acceptRanges", laid_unicode_utf8_acceptRanges), ("unicode/utf8.first", laid_unicode_utf8_first)] }
def FnExactToadMovesSaid : Prop := fnExactToadMovesRow.holds Tryd.pinned (OpenSpec.ofChange fnExactToadMovesSpec)

/-- ITS FALSE NEIGHBOUR: 'it returns false'. Refute it at one input. -/
def fnExactToadMovesWrong : ChangeSpec := { name := "fnExactToadMoves", fn := fun _ => fun
  | [d] => { results := [.lit (.bool false)], args := [d] }
  | _ => none }
def FnExactToadMovesWrongFalsely : Prop := fnExactToadMovesRow.holds Tryd.pinned (OpenSpec.ofChange fnExactToadMovesWrong)

/-- 'laws.FnExactFrogMoves': WHATEVER THE INPUT: true; the input reads as it did. -/
def fnExactFrogMovesSpec : ChangeSpec := { name := "fnExactFrogMoves", fn := fun _ => fun
  | [d] => { results := [.lit (.bool true)], args := [d] }
  | _ => none }
def fnExactFrogMovesRow : OpenClaim := { program := "ytmnpccdioifhoaadoor", sum := "49409c0a79d46f66bf05e3306a2ceec9890e3e23bc7bc1dd89293e5642b4d806", func := "loop.example/g01271/laws.FnExactFrogMoves", spec := "fnExactFrogMoves", inPlace := ["internal/bytealg.IndexByteString", "internal/bytealg.IndexString"], named := ["unicode/utf8.first", "unicode/utf8.acceptRanges", "internal/bytealg.MaxLen"], apart := false, laid := [("unicode/utf8.acceptRanges", laid_unicode_utf8_acceptRanges), ("unicode/utf8.first", laid_unicode_utf8_first)] }
def FnExactFrogMovesSaid : Prop := fnExactFrogMovesRow.holds Tryd.pinned (OpenSpec.ofChange fnExactFrogMovesSpec)

/-- ITS FALSE NEIGHBOUR: 'it returns false'. Refute it at one input. -/
def fnExactFrogMovesWrong : ChangeSpec := { name := "fnExactFrogMoves", fn := fun _ => fun
  | [d] => { results := [.lit (.bool false)], args := [d] }
  | _ => none }
def FnExactFrogMovesWrongFalsely : Prop := fnExactFrogMovesRow.holds Tryd.pinned (OpenSpec.ofChange fnExactFrogMovesWrong)

/-- 'laws.FnExactCanPlay': WHATEVER THE INPUT: true; the input reads as it did. -/
def fnExactCanPlaySpec : ChangeSpec := { name := "fnExactCanPlay", fn := fun _ => fun
  | [d1, d2] => { results := [.lit (.bool true)], args := [d1, d2] }
  | _ => none }
def fnExactCanPlayRow : OpenClaim := { program := "ytmnpccdioifhoaadoor", sum := "49409c0a79d46f66bf05e3306a2ceec9890e3e23bc7bc1dd89293e5642b4d806", func := "loop.example/g01271/laws.FnExactCanPlay", spec := "fnExactCanPlay", inPlace := ["internal/bytealg.IndexByteString", "internal/bytealg.IndexString", "internal/bytealg.CountString"], named := ["unicode/utf8.first", "unicode/utf8.acceptRanges", "internal/bytealg.MaxLen"], apart := false, laid := [("unicode/utf8.acceptRanges", laid_unicode_utf8_acceptRanges), ("unicode/utf8.first", laid_unicode_utf8_first)] }
def FnExactCanPlaySaid : Prop := fnExactCanPlayRow.holds Tryd.pinned (OpenSpec.ofChange fnExactCanPlaySpec)

/-- ITS FALSE NEIGHBOUR: 'it returns false'. Refute it at one input. -/
def fnExactCanPlayWrong : ChangeSpec := { name := "fnExactCanPlay", fn := fun _ => fun
  | [d1, d2] => { results := [.lit (.bool false)], args := [d1, d2] }
  | _ => none }
def FnExactCanPlayWrongFalsely : Prop := fnExactCanPlayRow.holds Tryd.pinned (OpenSpec.ofChange fnExactCanPlayWrong)

/-- 'laws.FnExactPlayWord': WHATEVER THE INPUT: true; the input reads as it did. -/
def fnExactPlayWordSpec : ChangeSpec := { name := "fnExactPlayWord", fn := fun _ => fun
  | [d1, d2] => { results := [.lit (.bool true)], args := [d1, d2] }
  | _ => none }
def fnExactPlayWordRow : OpenClaim := { program := "ytmnpccdioifhoaadoor", sum := "49409c0a79d46f66bf05e3306a2ceec9890e3e23bc7bc1dd89293e5642b4d806", func := "loop.example/g01271/laws.FnExactPlayWord", spec := "fnExactPlayWord", inPlace := ["internal/bytealg.IndexByteString", "internal/bytealg.IndexString", "internal/bytealg.CountString"], named := ["unicode/utf8.first", "unicode/utf8.acceptRanges", "internal/bytealg.MaxLen"], apart := false, laid := [("unicode/utf8.acceptRanges", laid_unicode_utf8_acceptRanges), ("unicode/utf8.first", laid_unicode_utf8_first)] }
def FnExactPlayWordSaid : Prop := fnExactPlayWordRow.holds Tryd.pinned (OpenSpec.ofChange fnExactPlayWordSpec)

/-- ITS FALSE NEIGHBOUR: 'it returns false'. Refute it at one input. -/
def fnExactPlayWordWrong : ChangeSpec := { name := "fnExactPlayWord", fn := fun _ => fun
  | [d1, d2] => { results := [.lit (.bool false)], args := [d1, d2] }
  | _ => none }
def FnExactPlayWordWrongFalsely : Prop := fnExactPlayWordRow.holds Tryd.pinned (OpenSpec.ofChange fnExactPlayWordWrong)

/-- 'laws.FnExactSignThatFails': WHATEVER THE INPUT: true; the input reads as it did. -/
def fnExactSignThatFailsSpec : ChangeSpec := { name := "fnExactSignThatFails", fn := fun _ => fun
  | [d1, d2] => { results := [.lit (.bool true)], args := [d1, d2] }
  | _ => none }
def fnExactSignThatFailsRow : OpenClaim := { program := "ytmnpccdioifhoaadoor", sum := "49409c0a79d46f66bf05e3306a2ceec9890e3e23bc7bc1dd89293e5642b4d806", func := "loop.example/g01271/laws.FnExactSignThatFails", spec := "fnExactSignThatFails", inPlace := ["internal/bytealg.IndexByteString", "internal/bytealg.IndexString", "internal/bytealg.CountString"], named := ["unicode/utf8.first", "unicode/utf8.acceptRanges", "internal/bytealg.MaxLen"], apart := false, laid := [("unicode/utf8.acceptRanges", laid_unicode_utf8_acceptRanges), ("unicode/utf8.first", laid_unicode_utf8_first)] }
def FnExactSignThatFailsSaid : Prop := fnExactSignThatFailsRow.holds Tryd.pinned (OpenSpec.ofChange fnExactSignThatFailsSpec)

/-- ITS FALSE NEIGHBOUR: 'it returns false'. Refute it at one input. -/
def fnExactSignThatFailsWrong : ChangeSpec := { name := "fnExactSignThatFails", fn := fun _ => fun
  | [d1, d2] => { results := [.lit (.bool false)], args := [d1, d2] }
  | _ => none }
def FnExactSignThatFailsWrongFalsely : Prop := fnExactSignThatFailsRow.holds Tryd.pinned (OpenSpec.ofChange fnExactSignThatFailsWrong)

/-- 'laws.FnExactMovesOfWord': WHATEVER THE INPUT: true; the input reads as it did. -/
def fnExactMovesOfWordSpec : ChangeSpec := { name := "fnExactMovesOfWord", fn := fun _ => fun
  | [d1, d2] => { results := [.lit (.bool true)], args := [d1, d2] }
  | _ => none }
def fnExactMovesOfWordRow : OpenClaim := { program := "ytmnpccdioifhoaadoor", sum := "49409c0a79d46f66bf05e3306a2ceec9890e3e23bc7bc1dd89293e5642b4d806", func := "loop.example/g01271/laws.FnExactMovesOfWord", spec := "fnExactMovesOfWord", inPlace := ["internal/bytealg.IndexByteString", "internal/bytealg.IndexString", "internal/bytealg.CountString"], named := ["unicode/utf8.first", "unicode/utf8.acceptRanges", "internal/bytealg.MaxLen"], apart := false, laid := [("unicode/utf8.acceptRanges", laid_unicode_utf8_acceptRanges), ("unicode/utf8.first", laid_unicode_utf8_first)] }
def FnExactMovesOfWordSaid : Prop := fnExactMovesOfWordRow.holds Tryd.pinned (OpenSpec.ofChange fnExactMovesOfWordSpec)

/-- ITS FALSE NEIGHBOUR: 'it returns false'. Refute it at one input. -/
def fnExactMovesOfWordWrong : ChangeSpec := { name := "fnExactMovesOfWord", fn := fun _ => fun
  | [d1, d2] => { results := [.lit (.bool false)], args := [d1, d2] }
  | _ => none }
def FnExactMovesOfWordWrongFalsely : Prop := fnExactMovesOfWordRow.holds Tryd.pinned (OpenSpec.ofChange fnExactMovesOfWordWrong)

/- THE SECOND FORM. 'bulk': how many values and letters a reading holds, each counted each time it is reached (what is shared counts as often as it is met; a slice's spare places count too). A statement '..UptoSaid' is the law's where the arguments, and the package variables that the reading takes, are together of bulk at most 1048576: NARROWER than '..Said'. Prove '..Said' where nothing that the law and all that it calls make is longer than what came in: it says more and counts as full. Else prove '..UptoSaid'. A law counts once. -/
mutual
def uptoBulk {H : Type} : DataW H → Nat
  | .lit (.string bytes) => bytes.length + 1
  | .lit _ => 1
  | .nil => 1
  | .ptr d => uptoBulk d + 1
  | .slice elems spare => uptoBulkAll elems + uptoBulkAll spare + 1
  | .agg parts => uptoBulkAll parts + 1
  | .iface _ d => uptoBulk d + 1
  | .map entries => uptoBulkEntries entries + 1
  | .held _ => 1
def uptoBulkAll {H : Type} : List (DataW H) → Nat
  | [] => 0
  | d :: r => uptoBulk d + uptoBulkAll r
def uptoBulkEntries {H : Type} : List (Lit × DataW H) → Nat
  | [] => 0
  | x :: r => uptoBulkEntry x + uptoBulkEntries r
def uptoBulkEntry {H : Type} : Lit × DataW H → Nat
  | (.string bytes, d) => bytes.length + uptoBulk d + 1
  | (_, d) => uptoBulk d + 1
 end
def uptoSmall : (H : Type) → List (DataW H) → Bool := fun _ ds => decide (uptoBulkAll ds ≤ 1048576)
def OpenSpec.upto (s : _root_.Go.ChangeSpec) : _root_.Go.OpenSpec := { _root_.Go.OpenSpec.ofChange s with cond := some uptoSmall }

/-- 'laws.FnExactOtherLine', WHERE WHAT IT READS IS OF BULK AT MOST 1048576: true; the input reads as it did. -/
def fnExactOtherLineUptoRow : OpenClaim := { program := "ytmnpccdioifhoaadoor", sum := "49409c0a79d46f66bf05e3306a2ceec9890e3e23bc7bc1dd89293e5642b4d806", func := "loop.example/g01271/laws.FnExactOtherLine", spec := "fnExactOtherLine", inPlace := ["internal/bytealg.IndexByteString", "internal/bytealg.IndexString"], named := ["unicode/utf8.first", "unicode/utf8.acceptRanges", "internal/bytealg.MaxLen"], apart := false, laid := [("unicode/utf8.acceptRanges", laid_unicode_utf8_acceptRanges), ("unicode/utf8.first", laid_unicode_utf8_first)], narrowed := true }
def FnExactOtherLineUptoSaid : Prop := fnExactOtherLineUptoRow.holds Tryd.pinned (OpenSpec.upto fnExactOtherLineSpec)

/-- 'laws.FnExactMirrorRing', WHERE WHAT IT READS IS OF BULK AT MOST 1048576: true; the input reads as it did. -/
def fnExactMirrorRingUptoRow : OpenClaim := { program := "ytmnpccdioifhoaadoor", sum := "49409c0a79d46f66bf05e3306a2ceec9890e3e23bc7bc1dd89293e5642b4d806", func := "loop.example/g01271/laws.FnExactMirrorRing", spec := "fnExactMirrorRing", inPlace := ["internal/bytealg.IndexByteString", "internal/bytealg.IndexString"], named := ["unicode/utf8.first", "unicode/utf8.acceptRanges", "internal/bytealg.MaxLen"], apart := false, laid := [("unicode/utf8.acceptRanges", laid_unicode_utf8_acceptRanges), ("unicode/utf8.first", laid_unicode_utf8_first)], narrowed := true }
def FnExactMirrorRingUptoSaid : Prop := fnExactMirrorRingUptoRow.holds Tryd.pinned (OpenSpec.upto fnExactMirrorRingSpec)

/-- 'laws.FnExactOtherBoard', WHERE WHAT IT READS IS OF BULK AT MOST 1048576: true; the input reads as it did. -/
def fnExactOtherBoardUptoRow : OpenClaim := { program := "ytmnpccdioifhoaadoor", sum := "49409c0a79d46f66bf05e3306a2ceec9890e3e23bc7bc1dd89293e5642b4d806", func := "loop.example/g01271/laws.FnExactOtherBoard", spec := "fnExactOtherBoard", inPlace := ["internal/bytealg.CountString", "internal/bytealg.IndexByteString", "internal/bytealg.IndexString"], unfollowed := true, recurses := true, named := ["unicode/utf8.first", "unicode/utf8.acceptRanges", "internal/bytealg.MaxLen"], apart := false, laid := [("unicode/utf8.acceptRanges", laid_unicode_utf8_acceptRanges), ("unicode/utf8.first", laid_unicode_utf8_first)], narrowed := true }
def FnExactOtherBoardUptoSaid : Prop := fnExactOtherBoardUptoRow.holds Tryd.pinned (OpenSpec.upto fnExactOtherBoardSpec)

/-- 'laws.FnExactIsBlocked', WHERE WHAT IT READS IS OF BULK AT MOST 1048576: true; the input reads as it did. -/
def fnExactIsBlockedUptoRow : OpenClaim := { program := "ytmnpccdioifhoaadoor", sum := "49409c0a79d46f66bf05e3306a2ceec9890e3e23bc7bc1dd89293e5642b4d806", func := "loop.example/g01271/laws.FnExactIsBlocked", spec := "fnExactIsBlocked", inPlace := ["internal/bytealg.IndexByteString", "internal/bytealg.IndexString"], named := ["unicode/utf8.first", "unicode/utf8.acceptRanges", "internal/bytealg.MaxLen"], apart := false, laid := [("unicode/utf8.acceptRanges", laid_unicode_utf8_acceptRanges), ("unicode/utf8.first", laid_unicode_utf8_first)], narrowed := true }
def FnExactIsBlockedUptoSaid : Prop := fnExactIsBlockedUptoRow.holds Tryd.pinned (OpenSpec.upto fnExactIsBlockedSpec)

/-- 'laws.FnExactMovesOf', WHERE WHAT IT READS IS OF BULK AT MOST 1048576: true; the input reads as it did. -/
def fnExactMovesOfUptoRow : OpenClaim := { program := "ytmnpccdioifhoaadoor", sum := "49409c0a79d46f66bf05e3306a2ceec9890e3e23bc7bc1dd89293e5642b4d806", func := "loop.example/g01271/laws.FnExactMovesOf", spec := "fnExactMovesOf", inPlace := ["internal/bytealg.IndexByteString", "internal/bytealg.IndexString"], named := ["unicode/utf8.first", "unicode/utf8.acceptRanges", "internal/bytealg.MaxLen"], apart := false, laid := [("unicode/utf8.acceptRanges", laid_unicode_utf8_acceptRanges), ("unicode/utf8.first", laid_unicode_utf8_first)], narrowed := true }
def FnExactMovesOfUptoSaid : Prop := fnExactMovesOfUptoRow.holds Tryd.pinned (OpenSpec.upto fnExactMovesOfSpec)

/-- 'laws.FnExactToadMoves', WHERE WHAT IT READS IS OF BULK AT MOST 1048576: true; the input reads as it did. -/
def fnExactToadMovesUptoRow : OpenClaim := { program := "ytmnpccdioifhoaadoor", sum := "49409c0a79d46f66bf05e3306a2ceec9890e3e23bc7bc1dd89293e5642b4d806", func := "loop.example/g01271/laws.FnExactToadMoves", spec := "fnExactToadMoves", inPlace := ["internal/bytealg.IndexByteString", "internal/bytealg.IndexString"], named := ["unicode/utf8.first", "unicode/utf8.acceptRanges", "internal/bytealg.MaxLen"], apart := false, laid := [("unicode/utf8.acceptRanges", laid_unicode_utf8_acceptRanges), ("unicode/utf8.first", laid_unicode_utf8_first)], narrowed := true }
def FnExactToadMovesUptoSaid : Prop := fnExactToadMovesUptoRow.holds Tryd.pinned (OpenSpec.upto fnExactToadMovesSpec)

/-- 'laws.FnExactFrogMoves', WHERE WHAT IT READS IS OF BULK AT MOST 1048576: true; the input reads as it did. -/
def fnExactFrogMovesUptoRow : OpenClaim := { program := "ytmnpccdioifhoaadoor", sum := "49409c0a79d46f66bf05e3306a2ceec9890e3e23bc7bc1dd89293e5642b4d806", func := "loop.example/g01271/laws.FnExactFrogMoves", spec := "fnExactFrogMoves", inPlace := ["internal/bytealg.IndexByteString", "internal/bytealg.IndexString"], named := ["unicode/utf8.first", "unicode/utf8.acceptRanges", "internal/bytealg.MaxLen"], apart := false, laid := [("unicode/utf8.acceptRanges", laid_unicode_utf8_acceptRanges), ("unicode/utf8.first", laid_unicode_utf8_first)], narrowed := true }
def FnExactFrogMovesUptoSaid : Prop := fnExactFrogMovesUptoRow.holds Tryd.pinned (OpenSpec.upto fnExactFrogMovesSpec)

/-- 'laws.FnExactCanPlay', WHERE WHAT IT READS IS OF BULK AT MOST 1048576: true; the input reads as it did. -/
def fnExactCanPlayUptoRow : OpenClaim := { program := "ytmnpccdioifhoaadoor", sum := "49409c0a79d46f66bf05e3306a2ceec9890e3e23bc7bc1dd89293e5642b4d806", func := "loop.example/g01271/laws.FnExactCanPlay", spec := "fnExactCanPlay", inPlace := ["internal/bytealg.IndexByteString", "internal/bytealg.IndexString", "internal/bytealg.CountString"], named := ["unicode/utf8.first", "unicode/utf8.acceptRanges", "internal/bytealg.MaxLen"], apart := false, laid := [("unicode/utf8.acceptRanges", laid_unicode_utf8_acceptRanges), ("unicode/utf8.first", laid_unicode_utf8_first)], narrowed := true }
def FnExactCanPlayUptoSaid : Prop := fnExactCanPlayUptoRow.holds Tryd.pinned (OpenSpec.upto fnExactCanPlaySpec)

/-- 'laws.FnExactPlayWord', WHERE WHAT IT READS IS OF BULK AT MOST 1048576: true; the input reads as it did. -/
def fnExactPlayWordUptoRow : OpenClaim := { program := "ytmnpccdioifhoaadoor", sum := "49409c0a79d46f66bf05e3306a2ceec9890e3e23bc7bc1dd89293e5642b4d806", func := "loop.example/g01271/laws.FnExactPlayWord", spec := "fnExactPlayWord", inPlace := ["internal/bytealg.IndexByteString", "internal/bytealg.IndexString", "internal/bytealg.CountString"], named := ["unicode/utf8.first", "unicode/utf8.acceptRanges", "internal/bytealg.MaxLen"], apart := false, laid := [("unicode/utf8.acceptRanges", laid_unicode_utf8_acceptRanges), ("unicode/utf8.first", laid_unicode_utf8_first)], narrowed := true }
def FnExactPlayWordUptoSaid : Prop := fnExactPlayWordUptoRow.holds Tryd.pinned (OpenSpec.upto fnExactPlayWordSpec)

/-- 'laws.FnExactSignThatFails', WHERE WHAT IT READS IS OF BULK AT MOST 1048576: true; the input reads as it did. -/
def fnExactSignThatFailsUptoRow : OpenClaim := { program := "ytmnpccdioifhoaadoor", sum := "49409c0a79d46f66bf05e3306a2ceec9890e3e23bc7bc1dd89293e5642b4d806", func := "loop.example/g01271/laws.FnExactSignThatFails", spec := "fnExactSignThatFails", inPlace := ["internal/bytealg.IndexByteString", "internal/bytealg.IndexString", "internal/bytealg.CountString"], named := ["unicode/utf8.first", "unicode/utf8.acceptRanges", "internal/bytealg.MaxLen"], apart := false, laid := [("unicode/utf8.acceptRanges", laid_unicode_utf8_acceptRanges), ("unicode/utf8.first", laid_unicode_utf8_first)], narrowed := true }
def FnExactSignThatFailsUptoSaid : Prop := fnExactSignThatFailsUptoRow.holds Tryd.pinned (OpenSpec.upto fnExactSignThatFailsSpec)

/-- 'laws.FnExactMovesOfWord', WHERE WHAT IT READS IS OF BULK AT MOST 1048576: true; the input reads as it did. -/
def fnExactMovesOfWordUptoRow : OpenClaim := { program := "ytmnpccdioifhoaadoor", sum := "49409c0a79d46f66bf05e3306a2ceec9890e3e23bc7bc1dd89293e5642b4d806", func := "loop.example/g01271/laws.FnExactMovesOfWord", spec := "fnExactMovesOfWord", inPlace := ["internal/bytealg.IndexByteString", "internal/bytealg.IndexString", "internal/bytealg.CountString"], named := ["unicode/utf8.first", "unicode/utf8.acceptRanges", "internal/bytealg.MaxLen"], apart := false, laid := [("unicode/utf8.acceptRanges", laid_unicode_utf8_acceptRanges), ("unicode/utf8.first", laid_unicode_utf8_first)], narrowed := true }
def FnExactMovesOfWordUptoSaid : Prop := fnExactMovesOfWordUptoRow.holds Tryd.pinned (OpenSpec.upto fnExactMovesOfWordSpec)

end Rows
end Go.Proofs.YtmnpccdioifhoaaDoor
