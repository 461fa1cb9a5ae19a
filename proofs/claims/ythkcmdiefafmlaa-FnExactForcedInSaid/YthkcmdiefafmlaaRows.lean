/-
  No cell of these rows narrows 'for every input' (looked for: loops, veiled, ifaces, maps, wideKeys, modest, calm, conditions, laid).
  DERIVED. THE GIVEN ROWS OF THIS SEAT. 7 by the template 'for every input the law returns true; each argument reads behind the call as it read before'; 0 by the template 'total and deterministic' (their statements: YthkcmdiefafmlaaTotals.lean).
  GIVEN WITH THE SEED: the statements are not yours to turn. If you find one false, say at which input.
  Laid BY PROGRAM, IN A SANDBOX (cutbox-rows.mjs): the forced cells as the released guide's own fill.sh prints them over the translation b810cf65a4a61670… (all of the seat's roots in one cut). By AI agents, Wed Nov 11 2026. No macro, syntax, notation, axiom, sorry.
-/
import Derived.Test.YthkcmdiefafmlaaChecked
import GoSem.Claim
import GoSem.ClaimJoined
import GoSem.ClaimMapViews
import Derived.JoinedTies
import Derived.KernelRfl
namespace Go.Proofs.Ythkcmdiefafmlaa
/- THE CELL 'sum', in the pinned program and in every row, IS THE sha256 OF THE DUMP (.gsa) THAT YthkcmdiefafmlaaProg.lean LOADS. Nothing in Lean hashes anything: it is a label: what it is worth is what the hold of that sum in a sandbox is worth. -/
noncomputable def Try.pinned : Pinned := { name := "ythkcmdiefafmlaa", sum := "b810cf65a4a61670db33fe089866ced0db4257ee7153ad266586902774073a8c", checked := Try.checked }
namespace Rows
def none {H : Type} : Left H := { results := [], args := [] }

/-- 'laws.FnExactCountExchanges': WHATEVER THE INPUT: true; the input reads as it did. -/
def fnExactCountExchangesSpec : ChangeSpec := { name := "fnExactCountExchanges", fn := fun _ => fun
  | [d1, d2, d3] => { results := [.lit (.bool true)], args := [d1, d2, d3] }
  | _ => none }
def fnExactCountExchangesRow : OpenClaim := { program := "ythkcmdiefafmlaa", sum := "b810cf65a4a61670db33fe089866ced0db4257ee7153ad266586902774073a8c", func := "loop.example/g01271/laws.FnExactCountExchanges", spec := "fnExactCountExchanges", inPlace := ["internal/abi.NoEscape", "internal/bytealg.MakeNoZero", "internal/bytealg.CountString", "internal/bytealg.IndexByteString", "internal/bytealg.IndexString"], recurses := true, named := ["internal/bytealg.MaxLen"], apart := false }
def FnExactCountExchangesSaid : Prop := fnExactCountExchangesRow.holds Try.pinned (OpenSpec.ofChange fnExactCountExchangesSpec)

/-- ITS FALSE NEIGHBOUR: 'it returns false'. Refute it at one input. -/
def fnExactCountExchangesWrong : ChangeSpec := { name := "fnExactCountExchanges", fn := fun _ => fun
  | [d1, d2, d3] => { results := [.lit (.bool false)], args := [d1, d2, d3] }
  | _ => none }
def FnExactCountExchangesWrongFalsely : Prop := fnExactCountExchangesRow.holds Try.pinned (OpenSpec.ofChange fnExactCountExchangesWrong)

/-- 'laws.FnExactFirstExchange': WHATEVER THE INPUT: true; the input reads as it did. -/
def fnExactFirstExchangeSpec : ChangeSpec := { name := "fnExactFirstExchange", fn := fun _ => fun
  | [d1, d2, d3] => { results := [.lit (.bool true)], args := [d1, d2, d3] }
  | _ => none }
def fnExactFirstExchangeRow : OpenClaim := { program := "ythkcmdiefafmlaa", sum := "b810cf65a4a61670db33fe089866ced0db4257ee7153ad266586902774073a8c", func := "loop.example/g01271/laws.FnExactFirstExchange", spec := "fnExactFirstExchange", inPlace := ["internal/abi.NoEscape", "internal/bytealg.MakeNoZero", "internal/bytealg.CountString", "internal/bytealg.IndexByteString", "internal/bytealg.IndexString"], unfollowed := true, recurses := true, named := ["internal/bytealg.MaxLen"], apart := false }
def FnExactFirstExchangeSaid : Prop := fnExactFirstExchangeRow.holds Try.pinned (OpenSpec.ofChange fnExactFirstExchangeSpec)

/-- ITS FALSE NEIGHBOUR: 'it returns false'. Refute it at one input. -/
def fnExactFirstExchangeWrong : ChangeSpec := { name := "fnExactFirstExchange", fn := fun _ => fun
  | [d1, d2, d3] => { results := [.lit (.bool false)], args := [d1, d2, d3] }
  | _ => none }
def FnExactFirstExchangeWrongFalsely : Prop := fnExactFirstExchangeRow.holds Try.pinned (OpenSpec.ofChange fnExactFirstExchangeWrong)

/-- 'laws.FnExactLastExchange': WHATEVER THE INPUT: true; the input reads as it did. -/
def fnExactLastExchangeSpec : ChangeSpec := { name := "fnExactLastExchange", fn := fun _ => fun
  | [d1, d2, d3] => { results := [.lit (.bool true)], args := [d1, d2, d3] }
  | _ => none }
def fnExactLastExchangeRow : OpenClaim := { program := "ythkcmdiefafmlaa", sum := "b810cf65a4a61670db33fe089866ced0db4257ee7153ad266586902774073a8c", func := "loop.example/g01271/laws.FnExactLastExchange", spec := "fnExactLastExchange", inPlace := ["internal/abi.NoEscape", "internal/bytealg.MakeNoZero", "internal/bytealg.CountString", "internal/bytealg.IndexByteString", "internal/bytealg.IndexString"], unfollowed := true, recurses := true, named := ["internal/bytealg.MaxLen"], apart := false }
def FnExactLastExchangeSaid : Prop := fnExactLastExchangeRow.holds Try.pinned (OpenSpec.ofChange fnExactLastExchangeSpec)

/-- ITS FALSE NEIGHBOUR: 'it returns false'. Refute it at one input. -/
def fnExactLastExchangeWrong : ChangeSpec := { name := "fnExactLastExchange", fn := fun _ => fun
  | [d1, d2, d3] => { results := [.lit (.bool false)], args := [d1, d2, d3] }
  | _ => none }
def FnExactLastExchangeWrongFalsely : Prop := fnExactLastExchangeRow.holds Try.pinned (OpenSpec.ofChange fnExactLastExchangeWrong)

/-- 'laws.FnExactLineInExchange': WHATEVER THE INPUT: true; the input reads as it did. -/
def fnExactLineInExchangeSpec : ChangeSpec := { name := "fnExactLineInExchange", fn := fun _ => fun
  | [d1, d2, d3, d4] => { results := [.lit (.bool true)], args := [d1, d2, d3, d4] }
  | _ => none }
def fnExactLineInExchangeRow : OpenClaim := { program := "ythkcmdiefafmlaa", sum := "b810cf65a4a61670db33fe089866ced0db4257ee7153ad266586902774073a8c", func := "loop.example/g01271/laws.FnExactLineInExchange", spec := "fnExactLineInExchange", inPlace := ["internal/abi.NoEscape", "internal/bytealg.MakeNoZero", "internal/bytealg.CountString", "internal/bytealg.IndexByteString", "internal/bytealg.IndexString"], unfollowed := true, recurses := true, named := ["internal/bytealg.MaxLen"], apart := false }
def FnExactLineInExchangeSaid : Prop := fnExactLineInExchangeRow.holds Try.pinned (OpenSpec.ofChange fnExactLineInExchangeSpec)

/-- ITS FALSE NEIGHBOUR: 'it returns false'. Refute it at one input. -/
def fnExactLineInExchangeWrong : ChangeSpec := { name := "fnExactLineInExchange", fn := fun _ => fun
  | [d1, d2, d3, d4] => { results := [.lit (.bool false)], args := [d1, d2, d3, d4] }
  | _ => none }
def FnExactLineInExchangeWrongFalsely : Prop := fnExactLineInExchangeRow.holds Try.pinned (OpenSpec.ofChange fnExactLineInExchangeWrong)

/-- 'laws.FnExactForcedIn': WHATEVER THE INPUT: true; the input reads as it did. -/
def fnExactForcedInSpec : ChangeSpec := { name := "fnExactForcedIn", fn := fun _ => fun
  | [d1, d2, d3, d4] => { results := [.lit (.bool true)], args := [d1, d2, d3, d4] }
  | _ => none }
def fnExactForcedInRow : OpenClaim := { program := "ythkcmdiefafmlaa", sum := "b810cf65a4a61670db33fe089866ced0db4257ee7153ad266586902774073a8c", func := "loop.example/g01271/laws.FnExactForcedIn", spec := "fnExactForcedIn", inPlace := ["internal/abi.NoEscape", "internal/bytealg.MakeNoZero", "internal/bytealg.CountString", "internal/bytealg.IndexByteString", "internal/bytealg.IndexString"], unfollowed := true, recurses := true, named := ["internal/bytealg.MaxLen"], apart := false }
def FnExactForcedInSaid : Prop := fnExactForcedInRow.holds Try.pinned (OpenSpec.ofChange fnExactForcedInSpec)

/-- ITS FALSE NEIGHBOUR: 'it returns false'. Refute it at one input. -/
def fnExactForcedInWrong : ChangeSpec := { name := "fnExactForcedIn", fn := fun _ => fun
  | [d1, d2, d3, d4] => { results := [.lit (.bool false)], args := [d1, d2, d3, d4] }
  | _ => none }
def FnExactForcedInWrongFalsely : Prop := fnExactForcedInRow.holds Try.pinned (OpenSpec.ofChange fnExactForcedInWrong)

/-- 'laws.FnExactExchangeBoard': WHATEVER THE INPUT: true; the input reads as it did. -/
def fnExactExchangeBoardSpec : ChangeSpec := { name := "fnExactExchangeBoard", fn := fun _ => fun
  | [d1, d2] => { results := [.lit (.bool true)], args := [d1, d2] }
  | _ => none }
def fnExactExchangeBoardRow : OpenClaim := { program := "ythkcmdiefafmlaa", sum := "b810cf65a4a61670db33fe089866ced0db4257ee7153ad266586902774073a8c", func := "loop.example/g01271/laws.FnExactExchangeBoard", spec := "fnExactExchangeBoard", inPlace := ["internal/abi.NoEscape", "internal/bytealg.MakeNoZero", "internal/bytealg.CountString", "internal/bytealg.IndexByteString", "internal/bytealg.IndexString"], unfollowed := true, recurses := true, named := ["internal/bytealg.MaxLen"], apart := false }
def FnExactExchangeBoardSaid : Prop := fnExactExchangeBoardRow.holds Try.pinned (OpenSpec.ofChange fnExactExchangeBoardSpec)

/-- ITS FALSE NEIGHBOUR: 'it returns false'. Refute it at one input. -/
def fnExactExchangeBoardWrong : ChangeSpec := { name := "fnExactExchangeBoard", fn := fun _ => fun
  | [d1, d2] => { results := [.lit (.bool false)], args := [d1, d2] }
  | _ => none }
def FnExactExchangeBoardWrongFalsely : Prop := fnExactExchangeBoardRow.holds Try.pinned (OpenSpec.ofChange fnExactExchangeBoardWrong)

/-- 'laws.FnExactAllExchanges': WHATEVER THE INPUT: true; the input reads as it did. -/
def fnExactAllExchangesSpec : ChangeSpec := { name := "fnExactAllExchanges", fn := fun _ => fun
  | [d1, d2, d3] => { results := [.lit (.bool true)], args := [d1, d2, d3] }
  | _ => none }
def fnExactAllExchangesRow : OpenClaim := { program := "ythkcmdiefafmlaa", sum := "b810cf65a4a61670db33fe089866ced0db4257ee7153ad266586902774073a8c", func := "loop.example/g01271/laws.FnExactAllExchanges", spec := "fnExactAllExchanges", inPlace := ["internal/abi.NoEscape", "internal/bytealg.MakeNoZero", "internal/bytealg.CountString", "internal/bytealg.IndexByteString", "internal/bytealg.IndexString"], unfollowed := true, recurses := true, named := ["internal/bytealg.MaxLen"], apart := false }
def FnExactAllExchangesSaid : Prop := fnExactAllExchangesRow.holds Try.pinned (OpenSpec.ofChange fnExactAllExchangesSpec)

/-- ITS FALSE NEIGHBOUR: 'it returns false'. Refute it at one input. -/
def fnExactAllExchangesWrong : ChangeSpec := { name := "fnExactAllExchanges", fn := fun _ => fun
  | [d1, d2, d3] => { results := [.lit (.bool false)], args := [d1, d2, d3] }
  | _ => none }
def FnExactAllExchangesWrongFalsely : Prop := fnExactAllExchangesRow.holds Try.pinned (OpenSpec.ofChange fnExactAllExchangesWrong)

/- THE SECOND FORM. 'bulk': how many values and letters a reading holds, each counted each time it is reached (what is shared counts as often as it is met; a slice's spare places count too). A statement '..UptoSaid' is the law's where the arguments, and the package variables that the reading takes, are together of bulk at most 1048576: NARROWER than '..Said'. Prove '..Said' where nothing that the law and all that it calls make is longer than what came in: it says more and counts as full. Else prove '..UptoSaid'. A law counts once. -/
mutual
def uptoBulk {H : Type} : DataW H → Nat
  | .lit (.string bytes) => bytes.length + 1
  | .lit _ => 1
  | .nil => 1
  | .ptr d => uptoBulk d + 1
  | .slice elems spare => uptoBulkAll elems + uptoBulkAll spare + 1
  | .agg parts => uptoBulkAll parts + 1
  | .iface _ d => uptoBulk d + 1
  | .map entries => uptoBulkEntries entries + 1
  | .held _ => 1
def uptoBulkAll {H : Type} : List (DataW H) → Nat
  | [] => 0
  | d :: r => uptoBulk d + uptoBulkAll r
def uptoBulkEntries {H : Type} : List (Lit × DataW H) → Nat
  | [] => 0
  | x :: r => uptoBulkEntry x + uptoBulkEntries r
def uptoBulkEntry {H : Type} : Lit × DataW H → Nat
  | (.string bytes, d) => bytes.length + uptoBulk d + 1
  | (_, d) => uptoBulk d + 1
 end
def uptoSmall : (H : Type) → List (DataW H) → Bool := fun _ ds => decide (uptoBulkAll ds ≤ 1048576)
def OpenSpec.upto (s : _root_.Go.ChangeSpec) : _root_.Go.OpenSpec := { _root_.Go.OpenSpec.ofChange s with cond := some uptoSmall }

/-- 'laws.FnExactCountExchanges', WHERE WHAT IT READS IS OF BULK AT MOST 1048576: true; the input reads as it did. -/
def fnExactCountExchangesUptoRow : OpenClaim := { program := "ythkcmdiefafmlaa", sum := "b810cf65a4a61670db33fe089866ced0db4257ee7153ad266586902774073a8c", func := "loop.example/g01271/laws.FnExactCountExchanges", spec := "fnExactCountExchanges", inPlace := ["internal/abi.NoEscape", "internal/bytealg.MakeNoZero", "internal/bytealg.CountString", "internal/bytealg.IndexByteString", "internal/bytealg.IndexString"], recurses := true, named := ["internal/bytealg.MaxLen"], apart := false, narrowed := true }
def FnExactCountExchangesUptoSaid : Prop := fnExactCountExchangesUptoRow.holds Try.pinned (OpenSpec.upto fnExactCountExchangesSpec)

/-- 'laws.FnExactFirstExchange', WHERE WHAT IT READS IS OF BULK AT MOST 1048576: true; the input reads as it did. -/
def fnExactFirstExchangeUptoRow : OpenClaim := { program := "ythkcmdiefafmlaa", sum := "b810cf65a4a61670db33fe089866ced0db4257ee7153ad266586902774073a8c", func := "loop.example/g01271/laws.FnExactFirstExchange", spec := "fnExactFirstExchange", inPlace := ["internal/abi.NoEscape", "internal/bytealg.MakeNoZero", "internal/bytealg.CountString", "internal/bytealg.IndexByteString", "internal/bytealg.IndexString"], unfollowed := true, recurses := true, named := ["internal/bytealg.MaxLen"], apart := false, narrowed := true }
def FnExactFirstExchangeUptoSaid : Prop := fnExactFirstExchangeUptoRow.holds Try.pinned (OpenSpec.upto fnExactFirstExchangeSpec)

/-- 'laws.FnExactLastExchange', WHERE WHAT IT READS IS OF BULK AT MOST 1048576: true; the input reads as it did. -/
def fnExactLastExchangeUptoRow : OpenClaim := { program := "ythkcmdiefafmlaa", sum := "b810cf65a4a61670db33fe089866ced0db4257ee7153ad266586902774073a8c", func := "loop.example/g01271/laws.FnExactLastExchange", spec := "fnExactLastExchange", inPlace := ["internal/abi.NoEscape", "internal/bytealg.MakeNoZero", "internal/bytealg.CountString", "internal/bytealg.IndexByteString", "internal/bytealg.IndexString"], unfollowed := true, recurses := true, named := ["internal/bytealg.MaxLen"], apart := false, narrowed := true }
def FnExactLastExchangeUptoSaid : Prop := fnExactLastExchangeUptoRow.holds Try.pinned (OpenSpec.upto fnExactLastExchangeSpec)

/-- 'laws.FnExactLineInExchange', WHERE WHAT IT READS IS OF BULK AT MOST 1048576: true; the input reads as it did. -/
def fnExactLineInExchangeUptoRow : OpenClaim := { program := "ythkcmdiefafmlaa", sum := "b810cf65a4a61670db33fe089866ced0db4257ee7153ad266586902774073a8c", func := "loop.example/g01271/laws.FnExactLineInExchange", spec := "fnExactLineInExchange", inPlace := ["internal/abi.NoEscape", "internal/bytealg.MakeNoZero", "internal/bytealg.CountString", "internal/bytealg.IndexByteString", "internal/bytealg.IndexString"], unfollowed := true, recurses := true, named := ["internal/bytealg.MaxLen"], apart := false, narrowed := true }
def FnExactLineInExchangeUptoSaid : Prop := fnExactLineInExchangeUptoRow.holds Try.pinned (OpenSpec.upto fnExactLineInExchangeSpec)

/-- 'laws.FnExactForcedIn', WHERE WHAT IT READS IS OF BULK AT MOST 1048576: true; the input reads as it did. -/
def fnExactForcedInUptoRow : OpenClaim := { program := "ythkcmdiefafmlaa", sum := "b810cf65a4a61670db33fe089866ced0db4257ee7153ad266586902774073a8c", func := "loop.example/g01271/laws.FnExactForcedIn", spec := "fnExactForcedIn", inPlace := ["internal/abi.NoEscape", "internal/bytealg.MakeNoZero", "internal/bytealg.CountString", "internal/bytealg.IndexByteString", "internal/bytealg.IndexString"], unfollowed := true, recurses := true, named := ["internal/bytealg.MaxLen"], apart := false, narrowed := true }
def FnExactForcedInUptoSaid : Prop := fnExactForcedInUptoRow.holds Try.pinned (OpenSpec.upto fnExactForcedInSpec)

/-- 'laws.FnExactExchangeBoard', WHERE WHAT IT READS IS OF BULK AT MOST 1048576: true; the input reads as it did. -/
def fnExactExchangeBoardUptoRow : OpenClaim := { program := "ythkcmdiefafmlaa", sum := "b810cf65a4a61670db33fe089866ced0db4257ee7153ad266586902774073a8c", func := "loop.example/g01271/laws.FnExactExchangeBoard", spec := "fnExactExchangeBoard", inPlace := ["internal/abi.NoEscape", "internal/bytealg.MakeNoZero", "internal/bytealg.CountString", "internal/bytealg.IndexByteString", "internal/bytealg.IndexString"], unfollowed := true, recurses := true, named := ["internal/bytealg.MaxLen"], apart := false, narrowed := true }
def FnExactExchangeBoardUptoSaid : Prop := fnExactExchangeBoardUptoRow.holds Try.pinned (OpenSpec.upto fnExactExchangeBoardSpec)

/-- 'laws.FnExactAllExchanges', WHERE WHAT IT READS IS OF BULK AT MOST 1048576: true; the input reads as it did. -/
def fnExactAllExchangesUptoRow : OpenClaim := { program := "ythkcmdiefafmlaa", sum := "b810cf65a4a61670db33fe089866ced0db4257ee7153ad266586902774073a8c", func := "loop.example/g01271/laws.FnExactAllExchanges", spec := "fnExactAllExchanges", inPlace := ["internal/abi.NoEscape", "internal/bytealg.MakeNoZero", "internal/bytealg.CountString", "internal/bytealg.IndexByteString", "internal/bytealg.IndexString"], unfollowed := true, recurses := true, named := ["internal/bytealg.MaxLen"], apart := false, narrowed := true }
def FnExactAllExchangesUptoSaid : Prop := fnExactAllExchangesUptoRow.holds Try.pinned (OpenSpec.upto fnExactAllExchangesSpec)

end Rows
end Go.Proofs.Ythkcmdiefafmlaa
