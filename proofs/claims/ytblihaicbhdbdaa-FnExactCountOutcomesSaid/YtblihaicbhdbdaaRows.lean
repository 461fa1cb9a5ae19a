/-
  No cell of these rows narrows 'for every input' (looked for: loops, veiled, ifaces, maps, wideKeys, modest, calm, conditions, laid).
  DERIVED. THE GIVEN ROWS OF THIS SEAT. 5 by the template 'for every input the law returns true; each argument reads behind the call as it read before'; 0 by the template 'total and deterministic' (their statements: YtblihaicbhdbdaaTotals.lean).
  GIVEN WITH THE SEED: the statements are not yours to turn. If you find one false, say at which input.
  Laid BY PROGRAM, IN A SANDBOX (cutbox-rows.mjs): the forced cells as the released guide's own fill.sh prints them over the translation 43ee43b824ee94c3… (all of the seat's roots in one cut). By AI agents, Wed Nov 11 2026. No macro, syntax, notation, axiom, sorry.
-/
import Derived.Test.YtblihaicbhdbdaaChecked
import GoSem.Claim
import GoSem.ClaimJoined
import GoSem.ClaimMapViews
import Derived.JoinedTies
import Derived.KernelRfl
namespace Go.Proofs.Ytblihaicbhdbdaa
/- THE CELL 'sum', in the pinned program and in every row, IS THE sha256 OF THE DUMP (.gsa) THAT YtblihaicbhdbdaaProg.lean LOADS. Nothing in Lean hashes anything: it is a label: what it is worth is what the hold of that sum in a sandbox is worth. -/
noncomputable def Try.pinned : Pinned := { name := "ytblihaicbhdbdaa", sum := "43ee43b824ee94c328c60f3fe714d0d1bcf336743bf2631d7f0263aa5f70eb2b", checked := Try.checked }
namespace Rows
def none {H : Type} : Left H := { results := [], args := [] }

/-- 'laws.FnExactCountLive': WHATEVER THE INPUT: true; the input reads as it did. -/
def fnExactCountLiveSpec : ChangeSpec := { name := "fnExactCountLive", fn := fun _ => fun
  | [d1, d2, d3] => { results := [.lit (.bool true)], args := [d1, d2, d3] }
  | _ => none }
def fnExactCountLiveRow : OpenClaim := { program := "ytblihaicbhdbdaa", sum := "43ee43b824ee94c328c60f3fe714d0d1bcf336743bf2631d7f0263aa5f70eb2b", func := "loop.example/g01271/laws.FnExactCountLive", spec := "fnExactCountLive", inPlace := ["internal/abi.NoEscape", "internal/bytealg.MakeNoZero", "internal/bytealg.CountString", "internal/bytealg.IndexByteString", "internal/bytealg.IndexString"], unfollowed := true, recurses := true, named := ["internal/bytealg.MaxLen"], apart := false }
def FnExactCountLiveSaid : Prop := fnExactCountLiveRow.holds Try.pinned (OpenSpec.ofChange fnExactCountLiveSpec)

/-- ITS FALSE NEIGHBOUR: 'it returns false'. Refute it at one input. -/
def fnExactCountLiveWrong : ChangeSpec := { name := "fnExactCountLive", fn := fun _ => fun
  | [d1, d2, d3] => { results := [.lit (.bool false)], args := [d1, d2, d3] }
  | _ => none }
def FnExactCountLiveWrongFalsely : Prop := fnExactCountLiveRow.holds Try.pinned (OpenSpec.ofChange fnExactCountLiveWrong)

/-- 'laws.FnExactExchangeWord': WHATEVER THE INPUT: true; the input reads as it did. -/
def fnExactExchangeWordSpec : ChangeSpec := { name := "fnExactExchangeWord", fn := fun _ => fun
  | [d1, d2] => { results := [.lit (.bool true)], args := [d1, d2] }
  | _ => none }
def fnExactExchangeWordRow : OpenClaim := { program := "ytblihaicbhdbdaa", sum := "43ee43b824ee94c328c60f3fe714d0d1bcf336743bf2631d7f0263aa5f70eb2b", func := "loop.example/g01271/laws.FnExactExchangeWord", spec := "fnExactExchangeWord", inPlace := ["internal/abi.NoEscape", "internal/bytealg.MakeNoZero", "internal/bytealg.CountString", "internal/bytealg.IndexByteString", "internal/bytealg.IndexString"], recurses := true, named := ["internal/bytealg.MaxLen"], apart := false }
def FnExactExchangeWordSaid : Prop := fnExactExchangeWordRow.holds Try.pinned (OpenSpec.ofChange fnExactExchangeWordSpec)

/-- ITS FALSE NEIGHBOUR: 'it returns false'. Refute it at one input. -/
def fnExactExchangeWordWrong : ChangeSpec := { name := "fnExactExchangeWord", fn := fun _ => fun
  | [d1, d2] => { results := [.lit (.bool false)], args := [d1, d2] }
  | _ => none }
def FnExactExchangeWordWrongFalsely : Prop := fnExactExchangeWordRow.holds Try.pinned (OpenSpec.ofChange fnExactExchangeWordWrong)

/-- 'laws.FnExactAllExchanges': WHATEVER THE INPUT: true; the input reads as it did. -/
def fnExactAllExchangesSpec : ChangeSpec := { name := "fnExactAllExchanges", fn := fun _ => fun
  | [d1, d2, d3] => { results := [.lit (.bool true)], args := [d1, d2, d3] }
  | _ => none }
def fnExactAllExchangesRow : OpenClaim := { program := "ytblihaicbhdbdaa", sum := "43ee43b824ee94c328c60f3fe714d0d1bcf336743bf2631d7f0263aa5f70eb2b", func := "loop.example/g01271/laws.FnExactAllExchanges", spec := "fnExactAllExchanges", inPlace := ["internal/abi.NoEscape", "internal/bytealg.MakeNoZero", "internal/bytealg.CountString", "internal/bytealg.IndexByteString", "internal/bytealg.IndexString"], unfollowed := true, recurses := true, named := ["internal/bytealg.MaxLen"], apart := false }
def FnExactAllExchangesSaid : Prop := fnExactAllExchangesRow.holds Try.pinned (OpenSpec.ofChange fnExactAllExchangesSpec)

/-- ITS FALSE NEIGHBOUR: 'it returns false'. Refute it at one input. -/
def fnExactAllExchangesWrong : ChangeSpec := { name := "fnExactAllExchanges", fn := fun _ => fun
  | [d1, d2, d3] => { results := [.lit (.bool false)], args := [d1, d2, d3] }
  | _ => none }
def FnExactAllExchangesWrongFalsely : Prop := fnExactAllExchangesRow.holds Try.pinned (OpenSpec.ofChange fnExactAllExchangesWrong)

/-- 'laws.FnExactExchangeBoard': WHATEVER THE INPUT: true; the input reads as it did. -/
def fnExactExchangeBoardSpec : ChangeSpec := { name := "fnExactExchangeBoard", fn := fun _ => fun
  | [d1, d2] => { results := [.lit (.bool true)], args := [d1, d2] }
  | _ => none }
def fnExactExchangeBoardRow : OpenClaim := { program := "ytblihaicbhdbdaa", sum := "43ee43b824ee94c328c60f3fe714d0d1bcf336743bf2631d7f0263aa5f70eb2b", func := "loop.example/g01271/laws.FnExactExchangeBoard", spec := "fnExactExchangeBoard", inPlace := ["internal/abi.NoEscape", "internal/bytealg.MakeNoZero", "internal/bytealg.CountString", "internal/bytealg.IndexByteString", "internal/bytealg.IndexString"], unfollowed := true, recurses := true, named := ["internal/bytealg.MaxLen"], apart := false }
def FnExactExchangeBoardSaid : Prop := fnExactExchangeBoardRow.holds Try.pinned (OpenSpec.ofChange fnExactExchangeBoardSpec)

/-- ITS FALSE NEIGHBOUR: 'it returns false'. Refute it at one input. -/
def fnExactExchangeBoardWrong : ChangeSpec := { name := "fnExactExchangeBoard", fn := fun _ => fun
  | [d1, d2] => { results := [.lit (.bool false)], args := [d1, d2] }
  | _ => none }
def FnExactExchangeBoardWrongFalsely : Prop := fnExactExchangeBoardRow.holds Try.pinned (OpenSpec.ofChange fnExactExchangeBoardWrong)

/-- 'laws.FnExactCountOutcomes': WHATEVER THE INPUT: true; the input reads as it did. -/
def fnExactCountOutcomesSpec : ChangeSpec := { name := "fnExactCountOutcomes", fn := fun _ => fun
  | [d1, d2, d3] => { results := [.lit (.bool true)], args := [d1, d2, d3] }
  | _ => none }
def fnExactCountOutcomesRow : OpenClaim := { program := "ytblihaicbhdbdaa", sum := "43ee43b824ee94c328c60f3fe714d0d1bcf336743bf2631d7f0263aa5f70eb2b", func := "loop.example/g01271/laws.FnExactCountOutcomes", spec := "fnExactCountOutcomes", inPlace := ["internal/bytealg.IndexByteString", "internal/bytealg.IndexString"], unfollowed := true, recurses := true, named := ["internal/bytealg.MaxLen"], apart := false }
def FnExactCountOutcomesSaid : Prop := fnExactCountOutcomesRow.holds Try.pinned (OpenSpec.ofChange fnExactCountOutcomesSpec)

/-- ITS FALSE NEIGHBOUR: 'it returns false'. Refute it at one input. -/
def fnExactCountOutcomesWrong : ChangeSpec := { name := "fnExactCountOutcomes", fn := fun _ => fun
  | [d1, d2, d3] => { results := [.lit (.bool false)], args := [d1, d2, d3] }
  | _ => none }
def FnExactCountOutcomesWrongFalsely : Prop := fnExactCountOutcomesRow.holds Try.pinned (OpenSpec.ofChange fnExactCountOutcomesWrong)

/- THE SECOND FORM. 'bulk': how many values and letters a reading holds, each counted each time it is reached (what is shared counts as often as it is met; a slice's spare places count too). A statement '..UptoSaid' is the law's where the arguments, and the package variables that the reading takes, are together of bulk at most 1048576: NARROWER than '..Said'. Prove '..Said' where nothing that the law and all that it calls make is longer than what came in: it says more and counts as full. Else prove '..UptoSaid'. A law counts once. -/
mutual
def uptoBulk {H : Type} : DataW H → Nat
  | .lit (.string bytes) => bytes.length + 1
  | .lit _ => 1
  | .nil => 1
  | .ptr d => uptoBulk d + 1
  | .slice elems spare => uptoBulkAll elems + uptoBulkAll spare + 1
  | .agg parts => uptoBulkAll parts + 1
  | .iface _ d => uptoBulk d + 1
  | .map entries => uptoBulkEntries entries + 1
  | .held _ => 1
def uptoBulkAll {H : Type} : List (DataW H) → Nat
  | [] => 0
  | d :: r => uptoBulk d + uptoBulkAll r
def uptoBulkEntries {H : Type} : List (Lit × DataW H) → Nat
  | [] => 0
  | x :: r => uptoBulkEntry x + uptoBulkEntries r
def uptoBulkEntry {H : Type} : Lit × DataW H → Nat
  | (.string bytes, d) => bytes.length + uptoBulk d + 1
  | (_, d) => uptoBulk d + 1
 end
def uptoSmall : (H : Type) → List (DataW H) → Bool := fun _ ds => decide (uptoBulkAll ds ≤ 1048576)
def OpenSpec.upto (s : _root_.Go.ChangeSpec) : _root_.Go.OpenSpec := { _root_.Go.OpenSpec.ofChange s with cond := some uptoSmall }

/-- 'laws.FnExactCountLive', WHERE WHAT IT READS IS OF BULK AT MOST 1048576: true; the input reads as it did. -/
def fnExactCountLiveUptoRow : OpenClaim := { program := "ytblihaicbhdbdaa", sum := "43ee43b824ee94c328c60f3fe714d0d1bcf336743bf2631d7f0263aa5f70eb2b", func := "loop.example/g01271/laws.FnExactCountLive", spec := "fnExactCountLive", inPlace := ["internal/abi.NoEscape", "internal/bytealg.MakeNoZero", "internal/bytealg.CountString", "internal/bytealg.IndexByteString", "internal/bytealg.IndexString"], unfollowed := true, recurses := true, named := ["internal/bytealg.MaxLen"], apart := false, narrowed := true }
def FnExactCountLiveUptoSaid : Prop := fnExactCountLiveUptoRow.holds Try.pinned (OpenSpec.upto fnExactCountLiveSpec)

/-- 'laws.FnExactExchangeWord', WHERE WHAT IT READS IS OF BULK AT MOST 1048576: true; the input reads as it did. -/
def fnExactExchangeWordUptoRow : OpenClaim := { program := "ytblihaicbhdbdaa", sum := "43ee43b824ee94c328c60f3fe714d0d1bcf336743bf2631d7f0263aa5f70eb2b", func := "loop.example/g01271/laws.FnExactExchangeWord", spec := "fnExactExchangeWord", inPlace := ["internal/abi.NoEscape", "internal/bytealg.MakeNoZero", "internal/bytealg.CountString", "internal/bytealg.IndexByteString", "internal/bytealg.IndexString"], recurses := true, named := ["internal/bytealg.MaxLen"], apart := false, narrowed := true }
def FnExactExchangeWordUptoSaid : Prop := fnExactExchangeWordUptoRow.holds Try.pinned (OpenSpec.upto fnExactExchangeWordSpec)

/-- 'laws.FnExactAllExchanges', WHERE WHAT IT READS IS OF BULK AT MOST 1048576: true; the input reads as it did. -/
def fnExactAllExchangesUptoRow : OpenClaim := { program := "ytblihaicbhdbdaa", sum := "43ee43b824ee94c328c60f3fe714d0d1bcf336743bf2631d7f0263aa5f70eb2b", func := "loop.example/g01271/laws.FnExactAllExchanges", spec := "fnExactAllExchanges", inPlace := ["internal/abi.NoEscape", "internal/bytealg.MakeNoZero", "internal/bytealg.CountString", "internal/bytealg.IndexByteString", "internal/bytealg.IndexString"], unfollowed := true, recurses := true, named := ["internal/bytealg.MaxLen"], apart := false, narrowed := true }
def FnExactAllExchangesUptoSaid : Prop := fnExactAllExchangesUptoRow.holds Try.pinned (OpenSpec.upto fnExactAllExchangesSpec)

/-- 'laws.FnExactExchangeBoard', WHERE WHAT IT READS IS OF BULK AT MOST 1048576: true; the input reads as it did. -/
def fnExactExchangeBoardUptoRow : OpenClaim := { program := "ytblihaicbhdbdaa", sum := "43ee43b824ee94c328c60f3fe714d0d1bcf336743bf2631d7f0263aa5f70eb2b", func := "loop.example/g01271/laws.FnExactExchangeBoard", spec := "fnExactExchangeBoard", inPlace := ["internal/abi.NoEscape", "internal/bytealg.MakeNoZero", "internal/bytealg.CountString", "internal/bytealg.IndexByteString", "internal/bytealg.IndexString"], unfollowed := true, recurses := true, named := ["internal/bytealg.MaxLen"], apart := false, narrowed := true }
def FnExactExchangeBoardUptoSaid : Prop := fnExactExchangeBoardUptoRow.holds Try.pinned (OpenSpec.upto fnExactExchangeBoardSpec)

/-- 'laws.FnExactCountOutcomes', WHERE WHAT IT READS IS OF BULK AT MOST 1048576: true; the input reads as it did. -/
def fnExactCountOutcomesUptoRow : OpenClaim := { program := "ytblihaicbhdbdaa", sum := "43ee43b824ee94c328c60f3fe714d0d1bcf336743bf2631d7f0263aa5f70eb2b", func := "loop.example/g01271/laws.FnExactCountOutcomes", spec := "fnExactCountOutcomes", inPlace := ["internal/bytealg.IndexByteString", "internal/bytealg.IndexString"], unfollowed := true, recurses := true, named := ["internal/bytealg.MaxLen"], apart := false, narrowed := true }
def FnExactCountOutcomesUptoSaid : Prop := fnExactCountOutcomesUptoRow.holds Try.pinned (OpenSpec.upto fnExactCountOutcomesSpec)

end Rows
end Go.Proofs.Ytblihaicbhdbdaa
