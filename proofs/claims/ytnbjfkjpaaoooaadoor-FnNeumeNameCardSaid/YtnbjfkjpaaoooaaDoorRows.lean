/-
  NARROWER THAN 'FOR EVERY INPUT', by the rows' own cells (each row's printed sentence says how): FnExactContourValid: laid · FnExactNeumeName: laid · FnExactContourBack: laid · FnExactContourTurn: laid · FnExactContourLeast: laid · FnExactContourMany: laid · FnExactNeumeContour: laid · FnContourLower: laid · FnContourTurn: laid · FnNeumeName: laid · FnContourMany: laid · FnContourLeast: laid.
  DERIVED. THE GIVEN ROWS OF THIS SEAT. 12 by the template 'for every input the law returns true; each argument reads behind the call as it read before'; 0 by the template 'total and deterministic' (their statements: YtnbjfkjpaaoooaaDoorTotals.lean).
  GIVEN WITH THE SEED: the statements are not yours to turn. If you find one false, say at which input.
  Laid BY PROGRAM, IN A SANDBOX (cutbox-rows.mjs): the forced cells as the released guide's own fill.sh prints them over the translation 4ed27ba6f8d5aaaf… (all of the seat's roots in one cut). By AI agents, Wed Nov 11 2026. No macro, syntax, notation, axiom, sorry.
-/
import Derived.Test.YtnbjfkjpaaoooaaDoorChecked
import GoSem.PinnedTables
import GoSem.Claim
import GoSem.ClaimJoined
import GoSem.ClaimMapViews
import Derived.JoinedTies
import Derived.KernelRfl
namespace Go.Proofs.YtnbjfkjpaaoooaaDoor
/- THE CELL 'sum', in the pinned program and in every row, IS THE sha256 OF THE DUMP (.gsa) THAT YtnbjfkjpaaoooaaDoorProg.lean LOADS. Nothing in Lean hashes anything: it is a label: what it is worth is what the hold of that sum in a sandbox is worth. -/
noncomputable def Tryd.pinned : Pinned := { name := "ytnbjfkjpaaoooaadoor", sum := "4ed27ba6f8d5aaafb36403908115ca1ae76352ff5c1fcf049eb6f4dc0174ccba", checked := Tryd.checked }
namespace Rows
def none {H : Type} : Left H := { results := [], args := [] }

/- WHAT THE LISTED PACKAGE-LEVEL VARIABLES READ AS WHEN THE CALL BEGINS. Each datum BY PROGRAM (the guide's laid-datum.mjs) off the statement by which the dump's own 'gosem.cut.vars' lays the variable. In a bare row this is a premise. The card (YtnbjfkjpaaoooaaDoorCards.lean) ties it to the program's text. -/
def laid_unicode_utf8_acceptRanges {H : Type} : DataW H := .agg [.agg [.lit (.int .u8 128), .lit (.int .u8 191)], .agg [.lit (.int .u8 160), .lit (.int .u8 191)], .agg [.lit (.int .u8 128), .lit (.int .u8 159)], .agg [.lit (.int .u8 144), .lit (.int .u8 191)], .agg [.lit (.int .u8 128), .lit (.int .u8 143)], .agg [.lit (.int .u8 0), .lit (.int .u8 0)], .agg [.lit (.int .u8 0), .lit (.int .u8 0)], .agg [.lit (.int .u8 0), .lit (.int .u8 0)], .agg [.lit (.int .u8 0), .lit (.int .u8 0)], .agg [.lit (.int .u8 0), .lit (.int .u8 0)], .agg [.lit (.int .u8 0), .lit (.int .u8 0)], .agg [.lit (.int .u8 0), .lit (.int .u8 0)], .agg [.lit (.int .u8 0), .lit (.int .u8 0)], .agg [.lit (.int .u8 0), .lit (.int .u8 0)], .agg [.lit (.int .u8 0), .lit (.int .u8 0)], .agg [.lit (.int .u8 0), .lit (.int .u8 0)]]
/-- One of Go's own tables, pinned by name: the form's constant. -/
def laid_unicode_utf8_first : DataW Unit := Go.Pinned.utf8First
def laid_loop_example_neumes_impl_neumeRows {H : Type} : DataW H := .agg [.agg [.lit (.string []), .lit (.string [112, 117, 110, 99, 116, 117, 109])], .agg [.lit (.string [117]), .lit (.string [112, 101, 115])], .agg [.lit (.string [100]), .lit (.string [99, 108, 105, 118, 105, 115])], .agg [.lit (.string [117, 100]), .lit (.string [116, 111, 114, 99, 117, 108, 117, 115])], .agg [.lit (.string [100, 117]), .lit (.string [112, 111, 114, 114, 101, 99, 116, 117, 115])], .agg [.lit (.string [117, 117]), .lit (.string [115, 99, 97, 110, 100, 105, 99, 117, 115])], .agg [.lit (.string [100, 100]), .lit (.string [99, 108, 105, 109, 97, 99, 117, 115])]]

/-- 'laws.FnExactContourValid': WHATEVER THE INPUT: true; the input reads as it did. -/
def fnExactContourValidSpec : ChangeSpec := { name := "fnExactContourValid", fn := fun _ => fun
  | [d] => { results := [.lit (.bool true)], args := [d] }
  | _ => none }
def fnExactContourValidRow : OpenClaim := { program := "ytnbjfkjpaaoooaadoor", sum := "4ed27ba6f8d5aaafb36403908115ca1ae76352ff5c1fcf049eb6f4dc0174ccba", func := "loop.example/neumes/laws.FnExactContourValid", spec := "fnExactContourValid", inPlace := ["internal/bytealg.IndexByteString", "internal/bytealg.IndexString"], named := ["unicode/utf8.first", "unicode/utf8.acceptRanges", "internal/bytealg.MaxLen"], apart := false, laid := [("unicode/utf8.acceptRanges", laid_unicode_utf8_acceptRanges), ("unicode/utf8.first", laid_unicode_utf8_first)] }
def FnExactContourValidSaid : Prop := fnExactContourValidRow.holds Tryd.pinned (OpenSpec.ofChange fnExactContourValidSpec)

/-- ITS FALSE NEIGHBOUR: 'it returns false'. Refute it at one input. -/
def fnExactContourValidWrong : ChangeSpec := { name := "fnExactContourValid", fn := fun _ => fun
  | [d] => { results := [.lit (.bool false)], args := [d] }
  | _ => none }
def FnExactContourValidWrongFalsely : Prop := fnExactContourValidRow.holds Tryd.pinned (OpenSpec.ofChange fnExactContourValidWrong)

/-- 'laws.FnExactNeumeName': WHATEVER THE INPUT: true; the input reads as it did. -/
def fnExactNeumeNameSpec : ChangeSpec := { name := "fnExactNeumeName", vars := ["loop.example/neumes/impl.neumeRows"], fn := fun _ => fun
  | [d, g1] => { results := [.lit (.bool true)], args := [d], vars := [g1] }
  | _ => none }
def fnExactNeumeNameRow : OpenClaim := { program := "ytnbjfkjpaaoooaadoor", sum := "4ed27ba6f8d5aaafb36403908115ca1ae76352ff5c1fcf049eb6f4dc0174ccba", func := "loop.example/neumes/laws.FnExactNeumeName", spec := "fnExactNeumeName", inPlace := ["internal/bytealg.IndexByteString", "internal/bytealg.IndexString"], named := ["loop.example/neumes/impl.neumeRows", "unicode/utf8.first", "unicode/utf8.acceptRanges", "internal/bytealg.MaxLen"], apart := false, laid := [("unicode/utf8.acceptRanges", laid_unicode_utf8_acceptRanges), ("loop.example/neumes/impl.neumeRows", laid_loop_example_neumes_impl_neumeRows), ("unicode/utf8.first", laid_unicode_utf8_first)] }
def FnExactNeumeNameSaid : Prop := fnExactNeumeNameRow.holds Tryd.pinned (OpenSpec.ofChange fnExactNeumeNameSpec)

/-- ITS FALSE NEIGHBOUR: 'it returns false'. Refute it at one input. -/
def fnExactNeumeNameWrong : ChangeSpec := { name := "fnExactNeumeName", vars := ["loop.example/neumes/impl.neumeRows"], fn := fun _ => fun
  | [d, g1] => { results := [.lit (.bool false)], args := [d], vars := [g1] }
  | _ => none }
def FnExactNeumeNameWrongFalsely : Prop := fnExactNeumeNameRow.holds Tryd.pinned (OpenSpec.ofChange fnExactNeumeNameWrong)

/-- 'laws.FnExactContourBack': WHATEVER THE INPUT: true; the input reads as it did. -/
def fnExactContourBackSpec : ChangeSpec := { name := "fnExactContourBack", fn := fun _ => fun
  | [d] => { results := [.lit (.bool true)], args := [d] }
  | _ => none }
def fnExactContourBackRow : OpenClaim := { program := "ytnbjfkjpaaoooaadoor", sum := "4ed27ba6f8d5aaafb36403908115ca1ae76352ff5c1fcf049eb6f4dc0174ccba", func := "loop.example/neumes/laws.FnExactContourBack", spec := "fnExactContourBack", inPlace := ["internal/bytealg.IndexByteString", "internal/bytealg.IndexString"], named := ["unicode/utf8.first", "unicode/utf8.acceptRanges", "internal/bytealg.MaxLen"], apart := false, laid := [("unicode/utf8.acceptRanges", laid_unicode_utf8_acceptRanges), ("unicode/utf8.first", laid_unicode_utf8_first)] }
def FnExactContourBackSaid : Prop := fnExactContourBackRow.holds Tryd.pinned (OpenSpec.ofChange fnExactContourBackSpec)

/-- ITS FALSE NEIGHBOUR: 'it returns false'. Refute it at one input. -/
def fnExactContourBackWrong : ChangeSpec := { name := "fnExactContourBack", fn := fun _ => fun
  | [d] => { results := [.lit (.bool false)], args := [d] }
  | _ => none }
def FnExactContourBackWrongFalsely : Prop := fnExactContourBackRow.holds Tryd.pinned (OpenSpec.ofChange fnExactContourBackWrong)

/-- 'laws.FnExactContourTurn': WHATEVER THE INPUT: true; the input reads as it did. -/
def fnExactContourTurnSpec : ChangeSpec := { name := "fnExactContourTurn", fn := fun _ => fun
  | [d] => { results := [.lit (.bool true)], args := [d] }
  | _ => none }
def fnExactContourTurnRow : OpenClaim := { program := "ytnbjfkjpaaoooaadoor", sum := "4ed27ba6f8d5aaafb36403908115ca1ae76352ff5c1fcf049eb6f4dc0174ccba", func := "loop.example/neumes/laws.FnExactContourTurn", spec := "fnExactContourTurn", inPlace := ["internal/bytealg.IndexByteString", "internal/bytealg.IndexString"], named := ["unicode/utf8.first", "unicode/utf8.acceptRanges", "internal/bytealg.MaxLen"], apart := false, laid := [("unicode/utf8.acceptRanges", laid_unicode_utf8_acceptRanges), ("unicode/utf8.first", laid_unicode_utf8_first)] }
def FnExactContourTurnSaid : Prop := fnExactContourTurnRow.holds Tryd.pinned (OpenSpec.ofChange fnExactContourTurnSpec)

/-- ITS FALSE NEIGHBOUR: 'it returns false'. Refute it at one input. -/
def fnExactContourTurnWrong : ChangeSpec := { name := "fnExactContourTurn", fn := fun _ => fun
  | [d] => { results := [.lit (.bool false)], args := [d] }
  | _ => none }
def FnExactContourTurnWrongFalsely : Prop := fnExactContourTurnRow.holds Tryd.pinned (OpenSpec.ofChange fnExactContourTurnWrong)

/-- 'laws.FnExactContourLeast': WHATEVER THE INPUT: true; the input reads as it did. -/
def fnExactContourLeastSpec : ChangeSpec := { name := "fnExactContourLeast", fn := fun _ => fun
  | [d] => { results := [.lit (.bool true)], args := [d] }
  | _ => none }
def fnExactContourLeastRow : OpenClaim := { program := "ytnbjfkjpaaoooaadoor", sum := "4ed27ba6f8d5aaafb36403908115ca1ae76352ff5c1fcf049eb6f4dc0174ccba", func := "loop.example/neumes/laws.FnExactContourLeast", spec := "fnExactContourLeast", inPlace := ["internal/bytealg.IndexByteString", "internal/bytealg.IndexString"], named := ["unicode/utf8.first", "unicode/utf8.acceptRanges", "internal/bytealg.MaxLen"], apart := false, laid := [("unicode/utf8.acceptRanges", laid_unicode_utf8_acceptRanges), ("unicode/utf8.first", laid_unicode_utf8_first)] }
def FnExactContourLeastSaid : Prop := fnExactContourLeastRow.holds Tryd.pinned (OpenSpec.ofChange fnExactContourLeastSpec)

/-- ITS FALSE NEIGHBOUR: 'it returns false'. Refute it at one input. -/
def fnExactContourLeastWrong : ChangeSpec := { name := "fnExactContourLeast", fn := fun _ => fun
  | [d] => { results := [.lit (.bool false)], args := [d] }
  | _ => none }
def FnExactContourLeastWrongFalsely : Prop := fnExactContourLeastRow.holds Tryd.pinned (OpenSpec.ofChange fnExactContourLeastWrong)

/-- 'laws.FnExactContourMany': WHATEVER THE INPUT: true; the input reads as it did. -/
def fnExactContourManySpec : ChangeSpec := { name := "fnExactContourMany", fn := fun _ => fun
  | [d1, d2] => { results := [.lit (.bool true)], args := [d1, d2] }
  | _ => none }
def fnExactContourManyRow : OpenClaim := { program := "ytnbjfkjpaaoooaadoor", sum := "4ed27ba6f8d5aaafb36403908115ca1ae76352ff5c1fcf049eb6f4dc0174ccba", func := "loop.example/neumes/laws.FnExactContourMany", spec := "fnExactContourMany", inPlace := ["internal/bytealg.IndexByteString", "internal/bytealg.IndexString"], named := ["unicode/utf8.first", "unicode/utf8.acceptRanges", "internal/bytealg.MaxLen"], apart := false, laid := [("unicode/utf8.acceptRanges", laid_unicode_utf8_acceptRanges), ("unicode/utf8.first", laid_unicode_utf8_first)] }
def FnExactContourManySaid : Prop := fnExactContourManyRow.holds Tryd.pinned (OpenSpec.ofChange fnExactContourManySpec)

/-- ITS FALSE NEIGHBOUR: 'it returns false'. Refute it at one input. -/
def fnExactContourManyWrong : ChangeSpec := { name := "fnExactContourMany", fn := fun _ => fun
  | [d1, d2] => { results := [.lit (.bool false)], args := [d1, d2] }
  | _ => none }
def FnExactContourManyWrongFalsely : Prop := fnExactContourManyRow.holds Tryd.pinned (OpenSpec.ofChange fnExactContourManyWrong)

/-- 'laws.FnExactNeumeContour': WHATEVER THE INPUT: true; the input reads as it did. -/
def fnExactNeumeContourSpec : ChangeSpec := { name := "fnExactNeumeContour", vars := ["loop.example/neumes/impl.neumeRows"], fn := fun _ => fun
  | [d, g1] => { results := [.lit (.bool true)], args := [d], vars := [g1] }
  | _ => none }
def fnExactNeumeContourRow : OpenClaim := { program := "ytnbjfkjpaaoooaadoor", sum := "4ed27ba6f8d5aaafb36403908115ca1ae76352ff5c1fcf049eb6f4dc0174ccba", func := "loop.example/neumes/laws.FnExactNeumeContour", spec := "fnExactNeumeContour", inPlace := ["internal/bytealg.IndexByteString", "internal/bytealg.IndexString"], recurses := true, named := ["loop.example/neumes/impl.neumeRows", "unicode/utf8.first", "unicode/utf8.acceptRanges", "internal/bytealg.MaxLen"], apart := false, laid := [("unicode/utf8.acceptRanges", laid_unicode_utf8_acceptRanges), ("loop.example/neumes/impl.neumeRows", laid_loop_example_neumes_impl_neumeRows), ("unicode/utf8.first", laid_unicode_utf8_first)] }
def FnExactNeumeContourSaid : Prop := fnExactNeumeContourRow.holds Tryd.pinned (OpenSpec.ofChange fnExactNeumeContourSpec)

/-- ITS FALSE NEIGHBOUR: 'it returns false'. Refute it at one input. -/
def fnExactNeumeContourWrong : ChangeSpec := { name := "fnExactNeumeContour", vars := ["loop.example/neumes/impl.neumeRows"], fn := fun _ => fun
  | [d, g1] => { results := [.lit (.bool false)], args := [d], vars := [g1] }
  | _ => none }
def FnExactNeumeContourWrongFalsely : Prop := fnExactNeumeContourRow.holds Tryd.pinned (OpenSpec.ofChange fnExactNeumeContourWrong)

/-- 'laws.FnContourLower': WHATEVER THE INPUT: true; the input reads as it did. -/
def fnContourLowerSpec : ChangeSpec := { name := "fnContourLower", fn := fun _ => fun
  | [d] => { results := [.lit (.bool true)], args := [d] }
  | _ => none }
def fnContourLowerRow : OpenClaim := { program := "ytnbjfkjpaaoooaadoor", sum := "4ed27ba6f8d5aaafb36403908115ca1ae76352ff5c1fcf049eb6f4dc0174ccba", func := "loop.example/neumes/laws.FnContourLower", spec := "fnContourLower", inPlace := ["internal/bytealg.IndexByteString", "internal/bytealg.IndexString"], named := ["unicode/utf8.first", "unicode/utf8.acceptRanges", "internal/bytealg.MaxLen"], apart := false, laid := [("unicode/utf8.acceptRanges", laid_unicode_utf8_acceptRanges), ("unicode/utf8.first", laid_unicode_utf8_first)] }
def FnContourLowerSaid : Prop := fnContourLowerRow.holds Tryd.pinned (OpenSpec.ofChange fnContourLowerSpec)

/-- ITS FALSE NEIGHBOUR: 'it returns false'. Refute it at one input. -/
def fnContourLowerWrong : ChangeSpec := { name := "fnContourLower", fn := fun _ => fun
  | [d] => { results := [.lit (.bool false)], args := [d] }
  | _ => none }
def FnContourLowerWrongFalsely : Prop := fnContourLowerRow.holds Tryd.pinned (OpenSpec.ofChange fnContourLowerWrong)

/-- 'laws.FnContourTurn': WHATEVER THE INPUT: true; the input reads as it did. -/
def fnContourTurnSpec : ChangeSpec := { name := "fnContourTurn", fn := fun _ => fun
  | [d] => { results := [.lit (.bool true)], args := [d] }
  | _ => none }
def fnContourTurnRow : OpenClaim := { program := "ytnbjfkjpaaoooaadoor", sum := "4ed27ba6f8d5aaafb36403908115ca1ae76352ff5c1fcf049eb6f4dc0174ccba", func := "loop.example/neumes/laws.FnContourTurn", spec := "fnContourTurn", inPlace := ["internal/bytealg.IndexByteString", "internal/bytealg.IndexString"], named := ["unicode/utf8.first", "unicode/utf8.acceptRanges", "internal/bytealg.MaxLen"], apart := false, laid := [("unicode/utf8.acceptRanges", laid_unicode_utf8_acceptRanges), ("unicode/utf8.first", laid_unicode_utf8_first)] }
def FnContourTurnSaid : Prop := fnContourTurnRow.holds Tryd.pinned (OpenSpec.ofChange fnContourTurnSpec)

/-- ITS FALSE NEIGHBOUR: 'it returns false'. Refute it at one input. -/
def fnContourTurnWrong : ChangeSpec := { name := "fnContourTurn", fn := fun _ => fun
  | [d] => { results := [.lit (.bool false)], args := [d] }
  | _ => none }
def FnContourTurnWrongFalsely : Prop := fnContourTurnRow.holds Tryd.pinned (OpenSpec.ofChange fnContourTurnWrong)

/-- 'laws.FnNeumeName': WHATEVER THE INPUT: true; the input reads as it did. -/
def fnNeumeNameSpec : ChangeSpec := { name := "fnNeumeName", vars := ["loop.example/neumes/impl.neumeRows"], fn := fun _ => fun
  | [d, g1] => { results := [.lit (.bool true)], args := [d], vars := [g1] }
  | _ => none }
def fnNeumeNameRow : OpenClaim := { program := "ytnbjfkjpaaoooaadoor", sum := "4ed27ba6f8d5aaafb36403908115ca1ae76352ff5c1fcf049eb6f4dc0174ccba", func := "loop.example/neumes/laws.FnNeumeName", spec := "fnNeumeName", inPlace := ["internal/bytealg.IndexByteString", "internal/bytealg.IndexString"], named := ["loop.example/neumes/impl.neumeRows", "unicode/utf8.first", "unicode/utf8.acceptRanges", "internal/bytealg.MaxLen"], apart := false, laid := [("unicode/utf8.acceptRanges", laid_unicode_utf8_acceptRanges), ("loop.example/neumes/impl.neumeRows", laid_loop_example_neumes_impl_neumeRows), ("unicode/utf8.first", laid_unicode_utf8_first)] }
def FnNeumeNameSaid : Prop := fnNeumeNameRow.holds Tryd.pinned (OpenSpec.ofChange fnNeumeNameSpec)

/-- ITS FALSE NEIGHBOUR: 'it returns false'. Refute it at one input. -/
def fnNeumeNameWrong : ChangeSpec := { name := "fnNeumeName", vars := ["loop.example/neumes/impl.neumeRows"], fn := fun _ => fun
  | [d, g1] => { results := [.lit (.bool false)], args := [d], vars := [g1] }
  | _ => none }
def FnNeumeNameWrongFalsely : Prop := fnNeumeNameRow.holds Tryd.pinned (OpenSpec.ofChange fnNeumeNameWrong)

/-- 'laws.FnContourMany': WHATEVER THE INPUT: true; the input reads as it did. -/
def fnContourManySpec : ChangeSpec := { name := "fnContourMany", fn := fun _ => fun
  | [d] => { results := [.lit (.bool true)], args := [d] }
  | _ => none }
def fnContourManyRow : OpenClaim := { program := "ytnbjfkjpaaoooaadoor", sum := "4ed27ba6f8d5aaafb36403908115ca1ae76352ff5c1fcf049eb6f4dc0174ccba", func := "loop.example/neumes/laws.FnContourMany", spec := "fnContourMany", inPlace := ["internal/bytealg.IndexByteString", "internal/bytealg.IndexString"], named := ["unicode/utf8.first", "unicode/utf8.acceptRanges", "internal/bytealg.MaxLen"], apart := false, laid := [("unicode/utf8.acceptRanges", laid_unicode_utf8_acceptRanges), ("unicode/utf8.first", laid_unicode_utf8_first)] }
def FnContourManySaid : Prop := fnContourManyRow.holds Tryd.pinned (OpenSpec.ofChange fnContourManySpec)

/-- ITS FALSE NEIGHBOUR: 'it returns false'. Refute it at one input. -/
def fnContourManyWrong : ChangeSpec := { name := "fnContourMany", fn := fun _ => fun
  | [d] => { results := [.lit (.bool false)], args := [d] }
  | _ => none }
def FnContourManyWrongFalsely : Prop := fnContourManyRow.holds Tryd.pinned (OpenSpec.ofChange fnContourManyWrong)

/-- 'laws.FnContourLeast': WHATEVER THE INPUT: true; the input reads as it did. -/
def fnContourLeastSpec : ChangeSpec := { name := "fnContourLeast", fn := fun _ => fun
  | [d1, d2] => { results := [.lit (.bool true)], args := [d1, d2] }
  | _ => none }
def fnContourLeastRow : OpenClaim := { program := "ytnbjfkjpaaoooaadoor", sum := "4ed27ba6f8d5aaafb36403908115ca1ae76352ff5c1fcf049eb6f4dc0174ccba", func := "loop.example/neumes/laws.FnContourLeast", spec := "fnContourLeast", inPlace := ["internal/bytealg.IndexByteString", "internal/bytealg.IndexString"], named := ["unicode/utf8.first", "unicode/utf8.acceptRanges", "internal/bytealg.MaxLen"], apart := false, laid := [("unicode/utf8.acceptRanges", laid_unicode_utf8_acceptRanges), ("unicode/utf8.first", laid_unicode_utf8_first)] }
def FnContourLeastSaid : Prop := fnContourLeastRow.holds Tryd.pinned (OpenSpec.ofChange fnContourLeastSpec)

/-- ITS FALSE NEIGHBOUR: 'it returns false'. Refute it at one input. -/
def fnContourLeastWrong : ChangeSpec := { name := "fnContourLeast", fn := fun _ => fun
  | [d1, d2] => { results := [.lit (.bool false)], args := [d1, d2] }
  | _ => none }
def FnContourLeastWrongFalsely : Prop := fnContourLeastRow.holds Tryd.pinned (OpenSpec.ofChange fnContourLeastWrong)

/- THE SECOND FORM. 'bulk': how many values and letters a reading holds, each counted each time it is reached (what is shared counts as often as it is met; a slice's spare places count too). A statement '..UptoSaid' is the law's where the arguments, and the package variables that the reading takes, are together of bulk at most 1048576: NARROWER than '..Said'. Prove '..Said' where nothing that the law and all that it calls make is longer than what came in: it says more and counts as full. Else prove '..UptoSaid'. A law counts once. -/
mutual
def uptoBulk {H : Type} : DataW H → Nat
  | .lit (.string bytes) => bytes.length + 1
  | .lit _ => 1
  | .nil => 1
  | .ptr d => uptoBulk d + 1
  | .slice elems spare => uptoBulkAll elems + uptoBulkAll spare + 1
  | .agg parts => uptoBulkAll parts + 1
  | .iface _ d => uptoBulk d + 1
  | .map entries => uptoBulkEntries entries + 1
  | .held _ => 1
def uptoBulkAll {H : Type} : List (DataW H) → Nat
  | [] => 0
  | d :: r => uptoBulk d + uptoBulkAll r
def uptoBulkEntries {H : Type} : List (Lit × DataW H) → Nat
  | [] => 0
  | x :: r => uptoBulkEntry x + uptoBulkEntries r
def uptoBulkEntry {H : Type} : Lit × DataW H → Nat
  | (.string bytes, d) => bytes.length + uptoBulk d + 1
  | (_, d) => uptoBulk d + 1
 end
def uptoSmall : (H : Type) → List (DataW H) → Bool := fun _ ds => decide (uptoBulkAll ds ≤ 1048576)
def OpenSpec.upto (s : _root_.Go.ChangeSpec) : _root_.Go.OpenSpec := { _root_.Go.OpenSpec.ofChange s with cond := some uptoSmall }

/-- 'laws.FnExactContourValid', WHERE WHAT IT READS IS OF BULK AT MOST 1048576: true; the input reads as it did. -/
def fnExactContourValidUptoRow : OpenClaim := { program := "ytnbjfkjpaaoooaadoor", sum := "4ed27ba6f8d5aaafb36403908115ca1ae76352ff5c1fcf049eb6f4dc0174ccba", func := "loop.example/neumes/laws.FnExactContourValid", spec := "fnExactContourValid", inPlace := ["internal/bytealg.IndexByteString", "internal/bytealg.IndexString"], named := ["unicode/utf8.first", "unicode/utf8.acceptRanges", "internal/bytealg.MaxLen"], apart := false, laid := [("unicode/utf8.acceptRanges", laid_unicode_utf8_acceptRanges), ("unicode/utf8.first", laid_unicode_utf8_first)], narrowed := true }
def FnExactContourValidUptoSaid : Prop := fnExactContourValidUptoRow.holds Tryd.pinned (OpenSpec.upto fnExactContourValidSpec)

/-- 'laws.FnExactNeumeName', WHERE WHAT IT READS IS OF BULK AT MOST 1048576: true; the input reads as it did. -/
def fnExactNeumeNameUptoRow : OpenClaim := { program := "ytnbjfkjpaaoooaadoor", sum := "4ed27ba6f8d5aaafb36403908115ca1ae76352ff5c1fcf049eb6f4dc0174ccba", func := "loop.example/neumes/laws.FnExactNeumeName", spec := "fnExactNeumeName", inPlace := ["internal/bytealg.IndexByteString", "internal/bytealg.IndexString"], named := ["loop.example/neumes/impl.neumeRows", "unicode/utf8.first", "unicode/utf8.acceptRanges", "internal/bytealg.MaxLen"], apart := false, laid := [("unicode/utf8.acceptRanges", laid_unicode_utf8_acceptRanges), ("loop.example/neumes/impl.neumeRows", laid_loop_example_neumes_impl_neumeRows), ("unicode/utf8.first", laid_unicode_utf8_first)], narrowed := true }
def FnExactNeumeNameUptoSaid : Prop := fnExactNeumeNameUptoRow.holds Tryd.pinned (OpenSpec.upto fnExactNeumeNameSpec)

/-- 'laws.FnExactContourBack', WHERE WHAT IT READS IS OF BULK AT MOST 1048576: true; the input reads as it did. -/
def fnExactContourBackUptoRow : OpenClaim := { program := "ytnbjfkjpaaoooaadoor", sum := "4ed27ba6f8d5aaafb36403908115ca1ae76352ff5c1fcf049eb6f4dc0174ccba", func := "loop.example/neumes/laws.FnExactContourBack", spec := "fnExactContourBack", inPlace := ["internal/bytealg.IndexByteString", "internal/bytealg.IndexString"], named := ["unicode/utf8.first", "unicode/utf8.acceptRanges", "internal/bytealg.MaxLen"], apart := false, laid := [("unicode/utf8.acceptRanges", laid_unicode_utf8_acceptRanges), ("unicode/utf8.first", laid_unicode_utf8_first)], narrowed := true }
def FnExactContourBackUptoSaid : Prop := fnExactContourBackUptoRow.holds Tryd.pinned (OpenSpec.upto fnExactContourBackSpec)

/-- 'laws.FnExactContourTurn', WHERE WHAT IT READS IS OF BULK AT MOST 1048576: true; the input reads as it did. -/
def fnExactContourTurnUptoRow : OpenClaim := { program := "ytnbjfkjpaaoooaadoor", sum := "4ed27ba6f8d5aaafb36403908115ca1ae76352ff5c1fcf049eb6f4dc0174ccba", func := "loop.example/neumes/laws.FnExactContourTurn", spec := "fnExactContourTurn", inPlace := ["internal/bytealg.IndexByteString", "internal/bytealg.IndexString"], named := ["unicode/utf8.first", "unicode/utf8.acceptRanges", "internal/bytealg.MaxLen"], apart := false, laid := [("unicode/utf8.acceptRanges", laid_unicode_utf8_acceptRanges), ("unicode/utf8.first", laid_unicode_utf8_first)], narrowed := true }
def FnExactContourTurnUptoSaid : Prop := fnExactContourTurnUptoRow.holds Tryd.pinned (OpenSpec.upto fnExactContourTurnSpec)

/-- 'laws.FnExactContourLeast', WHERE WHAT IT READS IS OF BULK AT MOST 1048576: true; the input reads as it did. -/
def fnExactContourLeastUptoRow : OpenClaim := { program := "ytnbjfkjpaaoooaadoor", sum := "4ed27ba6f8d5aaafb36403908115ca1ae76352ff5c1fcf049eb6f4dc0174ccba", func := "loop.example/neumes/laws.FnExactContourLeast", spec := "fnExactContourLeast", inPlace := ["internal/bytealg.IndexByteString", "internal/bytealg.IndexString"], named := ["unicode/utf8.first", "unicode/utf8.acceptRanges", "internal/bytealg.MaxLen"], apart := false, laid := [("unicode/utf8.acceptRanges", laid_unicode_utf8_acceptRanges), ("unicode/utf8.first", laid_unicode_utf8_first)], narrowed := true }
def FnExactContourLeastUptoSaid : Prop := fnExactContourLeastUptoRow.holds Tryd.pinned (OpenSpec.upto fnExactContourLeastSpec)

/-- 'laws.FnExactContourMany', WHERE WHAT IT READS IS OF BULK AT MOST 1048576: true; the input reads as it did. -/
def fnExactContourManyUptoRow : OpenClaim := { program := "ytnbjfkjpaaoooaadoor", sum := "4ed27ba6f8d5aaafb36403908115ca1ae76352ff5c1fcf049eb6f4dc0174ccba", func := "loop.example/neumes/laws.FnExactContourMany", spec := "fnExactContourMany", inPlace := ["internal/bytealg.IndexByteString", "internal/bytealg.IndexString"], named := ["unicode/utf8.first", "unicode/utf8.acceptRanges", "internal/bytealg.MaxLen"], apart := false, laid := [("unicode/utf8.acceptRanges", laid_unicode_utf8_acceptRanges), ("unicode/utf8.first", laid_unicode_utf8_first)], narrowed := true }
def FnExactContourManyUptoSaid : Prop := fnExactContourManyUptoRow.holds Tryd.pinned (OpenSpec.upto fnExactContourManySpec)

/-- 'laws.FnExactNeumeContour', WHERE WHAT IT READS IS OF BULK AT MOST 1048576: true; the input reads as it did. -/
def fnExactNeumeContourUptoRow : OpenClaim := { program := "ytnbjfkjpaaoooaadoor", sum := "4ed27ba6f8d5aaafb36403908115ca1ae76352ff5c1fcf049eb6f4dc0174ccba", func := "loop.example/neumes/laws.FnExactNeumeContour", spec := "fnExactNeumeContour", inPlace := ["internal/bytealg.IndexByteString", "internal/bytealg.IndexString"], recurses := true, named := ["loop.example/neumes/impl.neumeRows", "unicode/utf8.first", "unicode/utf8.acceptRanges", "internal/bytealg.MaxLen"], apart := false, laid := [("unicode/utf8.acceptRanges", laid_unicode_utf8_acceptRanges), ("loop.example/neumes/impl.neumeRows", laid_loop_example_neumes_impl_neumeRows), ("unicode/utf8.first", laid_unicode_utf8_first)], narrowed := true }
def FnExactNeumeContourUptoSaid : Prop := fnExactNeumeContourUptoRow.holds Tryd.pinned (OpenSpec.upto fnExactNeumeContourSpec)

/-- 'laws.FnContourLower', WHERE WHAT IT READS IS OF BULK AT MOST 1048576: true; the input reads as it did. -/
def fnContourLowerUptoRow : OpenClaim := { program := "ytnbjfkjpaaoooaadoor", sum := "4ed27ba6f8d5aaafb36403908115ca1ae76352ff5c1fcf049eb6f4dc0174ccba", func := "loop.example/neumes/laws.FnContourLower", spec := "fnContourLower", inPlace := ["internal/bytealg.IndexByteString", "internal/bytealg.IndexString"], named := ["unicode/utf8.first", "unicode/utf8.acceptRanges", "internal/bytealg.MaxLen"], apart := false, laid := [("unicode/utf8.acceptRanges", laid_unicode_utf8_acceptRanges), ("unicode/utf8.first", laid_unicode_utf8_first)], narrowed := true }
def FnContourLowerUptoSaid : Prop := fnContourLowerUptoRow.holds Tryd.pinned (OpenSpec.upto fnContourLowerSpec)

/-- 'laws.FnContourTurn', WHERE WHAT IT READS IS OF BULK AT MOST 1048576: true; the input reads as it did. -/
def fnContourTurnUptoRow : OpenClaim := { program := "ytnbjfkjpaaoooaadoor", sum := "4ed27ba6f8d5aaafb36403908115ca1ae76352ff5c1fcf049eb6f4dc0174ccba", func := "loop.example/neumes/laws.FnContourTurn", spec := "fnContourTurn", inPlace := ["internal/bytealg.IndexByteString", "internal/bytealg.IndexString"], named := ["unicode/utf8.first", "unicode/utf8.acceptRanges", "internal/bytealg.MaxLen"], apart := false, laid := [("unicode/utf8.acceptRanges", laid_unicode_utf8_acceptRanges), ("unicode/utf8.first", laid_unicode_utf8_first)], narrowed := true }
def FnContourTurnUptoSaid : Prop := fnContourTurnUptoRow.holds Tryd.pinned (OpenSpec.upto fnContourTurnSpec)

/-- 'laws.FnNeumeName', WHERE WHAT IT READS IS OF BULK AT MOST 1048576: true; the input reads as it did. -/
def fnNeumeNameUptoRow : OpenClaim := { program := "ytnbjfkjpaaoooaadoor", sum := "4ed27ba6f8d5aaafb36403908115ca1ae76352ff5c1fcf049eb6f4dc0174ccba", func := "loop.example/neumes/laws.FnNeumeName", spec := "fnNeumeName", inPlace := ["internal/bytealg.IndexByteString", "internal/bytealg.IndexString"], named := ["loop.example/neumes/impl.neumeRows", "unicode/utf8.first", "unicode/utf8.acceptRanges", "internal/bytealg.MaxLen"], apart := false, laid := [("unicode/utf8.acceptRanges", laid_unicode_utf8_acceptRanges), ("loop.example/neumes/impl.neumeRows", laid_loop_example_neumes_impl_neumeRows), ("unicode/utf8.first", laid_unicode_utf8_first)], narrowed := true }
def FnNeumeNameUptoSaid : Prop := fnNeumeNameUptoRow.holds Tryd.pinned (OpenSpec.upto fnNeumeNameSpec)

/-- 'laws.FnContourMany', WHERE WHAT IT READS IS OF BULK AT MOST 1048576: true; the input reads as it did. -/
def fnContourManyUptoRow : OpenClaim := { program := "ytnbjfkjpaaoooaadoor", sum := "4ed27ba6f8d5aaafb36403908115ca1ae76352ff5c1fcf049eb6f4dc0174ccba", func := "loop.example/neumes/laws.FnContourMany", spec := "fnContourMany", inPlace := ["internal/bytealg.IndexByteString", "internal/bytealg.IndexString"], named := ["unicode/utf8.first", "unicode/utf8.acceptRanges", "internal/bytealg.MaxLen"], apart := false, laid := [("unicode/utf8.acceptRanges", laid_unicode_utf8_acceptRanges), ("unicode/utf8.first", laid_unicode_utf8_first)], narrowed := true }
def FnContourManyUptoSaid : Prop := fnContourManyUptoRow.holds Tryd.pinned (OpenSpec.upto fnContourManySpec)

/-- 'laws.FnContourLeast', WHERE WHAT IT READS IS OF BULK AT MOST 1048576: true; the input reads as it did. -/
def fnContourLeastUptoRow : OpenClaim := { program := "ytnbjfkjpaaoooaadoor", sum := "4ed27ba6f8d5aaafb36403908115ca1ae76352ff5c1fcf049eb6f4dc0174ccba", func := "loop.example/neumes/laws.FnContourLeast", spec := "fnContourLeast", inPlace := ["internal/bytealg.IndexByteString", "internal/bytealg.IndexString"], named := ["unicode/utf8.first", "unicode/utf8.acceptRanges", "internal/bytealg.MaxLen"], apart := false, laid := [("unicode/utf8.acceptRanges", laid_unicode_utf8_acceptRanges), ("unicode/utf8.first", laid_unicode_utf8_first)], narrowed := true }
def FnContourLeastUptoSaid : Prop := fnContourLeastUptoRow.holds Tryd.pinned (OpenSpec.upto fnContourLeastSpec)

end Rows
end Go.Proofs.YtnbjfkjpaaoooaaDoor
