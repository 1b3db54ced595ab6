/-
  NARROWER THAN 'FOR EVERY INPUT', by the rows' own cells (each row's printed sentence says how): FnVerse: laid · FnVerseGap: laid · FnVerseAccents: laid · FnExactVerseValid: laid · FnExactVerseHalves: laid · FnExactVerseSyllables: laid · FnExactVerseGap: laid · FnExactVerseEnds: laid · FnExactVerseAccents: laid.
  DERIVED. THE GIVEN ROWS OF THIS SEAT. 9 by the template 'for every input the law returns true; each argument reads behind the call as it read before'; 0 by the template 'total and deterministic' (their statements: YtocpicgepgphoaaDoorTotals.lean).
  GIVEN WITH THE SEED: the statements are not yours to turn. If you find one false, say at which input.
  Laid BY PROGRAM, IN A SANDBOX (cutbox-rows.mjs): the forced cells as the released guide's own fill.sh prints them over the translation a9d89b074c4a17ae… (all of the seat's roots in one cut). By AI agents, Wed Nov 11 2026. No macro, syntax, notation, axiom, sorry.
-/
import Derived.Test.YtocpicgepgphoaaDoorChecked
import GoSem.PinnedTables
import GoSem.Claim
import GoSem.ClaimJoined
import GoSem.ClaimMapViews
import Derived.JoinedTies
import Derived.KernelRfl
namespace Go.Proofs.YtocpicgepgphoaaDoor
/- THE CELL 'sum', in the pinned program and in every row, IS THE sha256 OF THE DUMP (.gsa) THAT YtocpicgepgphoaaDoorProg.lean LOADS. Nothing in Lean hashes anything: it is a label: what it is worth is what the hold of that sum in a sandbox is worth. -/
noncomputable def Tryd.pinned : Pinned := { name := "ytocpicgepgphoaadoor", sum := "a9d89b074c4a17aef8ff38df572f5f0f22b20a044f46c44b464355fdcbbbe5be", checked := Tryd.checked }
namespace Rows
def none {H : Type} : Left H := { results := [], args := [] }

/- WHAT THE LISTED PACKAGE-LEVEL VARIABLES READ AS WHEN THE CALL BEGINS. Each datum BY PROGRAM (the guide's laid-datum.mjs) off the statement by which the dump's own 'gosem.cut.vars' lays the variable. In a bare row this is a premise. The card (YtocpicgepgphoaaDoorCards.lean) ties it to the program's text. -/
def laid_unicode_utf8_acceptRanges {H : Type} : DataW H := .agg [.agg [.lit (.int .u8 128), .lit (.int .u8 191)], .agg [.lit (.int .u8 160), .lit (.int .u8 191)], .agg [.lit (.int .u8 128), .lit (.int .u8 159)], .agg [.lit (.int .u8 144), .lit (.int .u8 191)], .agg [.lit (.int .u8 128), .lit (.int .u8 143)], .agg [.lit (.int .u8 0), .lit (.int .u8 0)], .agg [.lit (.int .u8 0), .lit (.int .u8 0)], .agg [.lit (.int .u8 0), .lit (.int .u8 0)], .agg [.lit (.int .u8 0), .lit (.int .u8 0)], .agg [.lit (.int .u8 0), .lit (.int .u8 0)], .agg [.lit (.int .u8 0), .lit (.int .u8 0)], .agg [.lit (.int .u8 0), .lit (.int .u8 0)], .agg [.lit (.int .u8 0), .lit (.int .u8 0)], .agg [.lit (.int .u8 0), .lit (.int .u8 0)], .agg [.lit (.int .u8 0), .lit (.int .u8 0)], .agg [.lit (.int .u8 0), .lit (.int .u8 0)]]
/-- One of Go's own tables, pinned by name: the form's constant. -/
def laid_unicode_utf8_first : DataW Unit := Go.Pinned.utf8First

/-- 'laws.FnVerse': WHATEVER THE INPUT: true; the input reads as it did. -/
def fnVerseSpec : ChangeSpec := { name := "fnVerse", fn := fun _ => fun
  | [d] => { results := [.lit (.bool true)], args := [d] }
  | _ => none }
def fnVerseRow : OpenClaim := { program := "ytocpicgepgphoaadoor", sum := "a9d89b074c4a17aef8ff38df572f5f0f22b20a044f46c44b464355fdcbbbe5be", func := "loop.example/neumes/laws.FnVerse", spec := "fnVerse", inPlace := ["internal/bytealg.IndexByteString", "internal/bytealg.IndexString"], named := ["internal/bytealg.MaxLen", "unicode/utf8.first", "unicode/utf8.acceptRanges"], apart := false, laid := [("unicode/utf8.acceptRanges", laid_unicode_utf8_acceptRanges), ("unicode/utf8.first", laid_unicode_utf8_first)] }
def FnVerseSaid : Prop := fnVerseRow.holds Tryd.pinned (OpenSpec.ofChange fnVerseSpec)

/-- ITS FALSE NEIGHBOUR: 'it returns false'. Refute it at one input. -/
def fnVerseWrong : ChangeSpec := { name := "fnVerse", fn := fun _ => fun
  | [d] => { results := [.lit (.bool false)], args := [d] }
  | _ => none }
def FnVerseWrongFalsely : Prop := fnVerseRow.holds Tryd.pinned (OpenSpec.ofChange fnVerseWrong)

/-- 'laws.FnVerseGap': WHATEVER THE INPUT: true; the input reads as it did. -/
def fnVerseGapSpec : ChangeSpec := { name := "fnVerseGap", fn := fun _ => fun
  | [d] => { results := [.lit (.bool true)], args := [d] }
  | _ => none }
def fnVerseGapRow : OpenClaim := { program := "ytocpicgepgphoaadoor", sum := "a9d89b074c4a17aef8ff38df572f5f0f22b20a044f46c44b464355fdcbbbe5be", func := "loop.example/neumes/laws.FnVerseGap", spec := "fnVerseGap", inPlace := ["internal/bytealg.IndexByteString", "internal/bytealg.IndexString"], named := ["internal/bytealg.MaxLen", "unicode/utf8.first", "unicode/utf8.acceptRanges"], apart := false, laid := [("unicode/utf8.acceptRanges", laid_unicode_utf8_acceptRanges), ("unicode/utf8.first", laid_unicode_utf8_first)] }
def FnVerseGapSaid : Prop := fnVerseGapRow.holds Tryd.pinned (OpenSpec.ofChange fnVerseGapSpec)

/-- ITS FALSE NEIGHBOUR: 'it returns false'. Refute it at one input. -/
def fnVerseGapWrong : ChangeSpec := { name := "fnVerseGap", fn := fun _ => fun
  | [d] => { results := [.lit (.bool false)], args := [d] }
  | _ => none }
def FnVerseGapWrongFalsely : Prop := fnVerseGapRow.holds Tryd.pinned (OpenSpec.ofChange fnVerseGapWrong)

/-- 'laws.FnVerseAccents': WHATEVER THE INPUT: true; the input reads as it did. -/
def fnVerseAccentsSpec : ChangeSpec := { name := "fnVerseAccents", fn := fun _ => fun
  | [d] => { results := [.lit (.bool true)], args := [d] }
  | _ => none }
def fnVerseAccentsRow : OpenClaim := { program := "ytocpicgepgphoaadoor", sum := "a9d89b074c4a17aef8ff38df572f5f0f22b20a044f46c44b464355fdcbbbe5be", func := "loop.example/neumes/laws.FnVerseAccents", spec := "fnVerseAccents", inPlace := ["internal/bytealg.IndexByteString", "internal/bytealg.IndexString"], named := ["internal/bytealg.MaxLen", "unicode/utf8.first", "unicode/utf8.acceptRanges"], apart := false, laid := [("unicode/utf8.acceptRanges", laid_unicode_utf8_acceptRanges), ("unicode/utf8.first", laid_unicode_utf8_first)] }
def FnVerseAccentsSaid : Prop := fnVerseAccentsRow.holds Tryd.pinned (OpenSpec.ofChange fnVerseAccentsSpec)

/-- ITS FALSE NEIGHBOUR: 'it returns false'. Refute it at one input. -/
def fnVerseAccentsWrong : ChangeSpec := { name := "fnVerseAccents", fn := fun _ => fun
  | [d] => { results := [.lit (.bool false)], args := [d] }
  | _ => none }
def FnVerseAccentsWrongFalsely : Prop := fnVerseAccentsRow.holds Tryd.pinned (OpenSpec.ofChange fnVerseAccentsWrong)

/-- 'laws.FnExactVerseValid': WHATEVER THE INPUT: true; the input reads as it did. -/
def fnExactVerseValidSpec : ChangeSpec := { name := "fnExactVerseValid", fn := fun _ => fun
  | [d] => { results := [.lit (.bool true)], args := [d] }
  | _ => none }
def fnExactVerseValidRow : OpenClaim := { program := "ytocpicgepgphoaadoor", sum := "a9d89b074c4a17aef8ff38df572f5f0f22b20a044f46c44b464355fdcbbbe5be", func := "loop.example/neumes/laws.FnExactVerseValid", spec := "fnExactVerseValid", inPlace := ["internal/bytealg.IndexByteString", "internal/bytealg.IndexString"], named := ["internal/bytealg.MaxLen", "unicode/utf8.first", "unicode/utf8.acceptRanges"], apart := false, laid := [("unicode/utf8.acceptRanges", laid_unicode_utf8_acceptRanges), ("unicode/utf8.first", laid_unicode_utf8_first)] }
def FnExactVerseValidSaid : Prop := fnExactVerseValidRow.holds Tryd.pinned (OpenSpec.ofChange fnExactVerseValidSpec)

/-- ITS FALSE NEIGHBOUR: 'it returns false'. Refute it at one input. -/
def fnExactVerseValidWrong : ChangeSpec := { name := "fnExactVerseValid", fn := fun _ => fun
  | [d] => { results := [.lit (.bool false)], args := [d] }
  | _ => none }
def FnExactVerseValidWrongFalsely : Prop := fnExactVerseValidRow.holds Tryd.pinned (OpenSpec.ofChange fnExactVerseValidWrong)

/-- 'laws.FnExactVerseHalves': WHATEVER THE INPUT: true; the input reads as it did. -/
def fnExactVerseHalvesSpec : ChangeSpec := { name := "fnExactVerseHalves", fn := fun _ => fun
  | [d] => { results := [.lit (.bool true)], args := [d] }
  | _ => none }
def fnExactVerseHalvesRow : OpenClaim := { program := "ytocpicgepgphoaadoor", sum := "a9d89b074c4a17aef8ff38df572f5f0f22b20a044f46c44b464355fdcbbbe5be", func := "loop.example/neumes/laws.FnExactVerseHalves", spec := "fnExactVerseHalves", inPlace := ["internal/bytealg.IndexByteString", "internal/bytealg.IndexString"], named := ["internal/bytealg.MaxLen", "unicode/utf8.first", "unicode/utf8.acceptRanges"], apart := false, laid := [("unicode/utf8.acceptRanges", laid_unicode_utf8_acceptRanges), ("unicode/utf8.first", laid_unicode_utf8_first)] }
def FnExactVerseHalvesSaid : Prop := fnExactVerseHalvesRow.holds Tryd.pinned (OpenSpec.ofChange fnExactVerseHalvesSpec)

/-- ITS FALSE NEIGHBOUR: 'it returns false'. Refute it at one input. -/
def fnExactVerseHalvesWrong : ChangeSpec := { name := "fnExactVerseHalves", fn := fun _ => fun
  | [d] => { results := [.lit (.bool false)], args := [d] }
  | _ => none }
def FnExactVerseHalvesWrongFalsely : Prop := fnExactVerseHalvesRow.holds Tryd.pinned (OpenSpec.ofChange fnExactVerseHalvesWrong)

/-- 'laws.FnExactVerseSyllables': WHATEVER THE INPUT: true; the input reads as it did. -/
def fnExactVerseSyllablesSpec : ChangeSpec := { name := "fnExactVerseSyllables", fn := fun _ => fun
  | [d] => { results := [.lit (.bool true)], args := [d] }
  | _ => none }
def fnExactVerseSyllablesRow : OpenClaim := { program := "ytocpicgepgphoaadoor", sum := "a9d89b074c4a17aef8ff38df572f5f0f22b20a044f46c44b464355fdcbbbe5be", func := "loop.example/neumes/laws.FnExactVerseSyllables", spec := "fnExactVerseSyllables", inPlace := ["internal/bytealg.IndexByteString", "internal/bytealg.IndexString"], named := ["internal/bytealg.MaxLen", "unicode/utf8.first", "unicode/utf8.acceptRanges"], apart := false, laid := [("unicode/utf8.acceptRanges", laid_unicode_utf8_acceptRanges), ("unicode/utf8.first", laid_unicode_utf8_first)] }
def FnExactVerseSyllablesSaid : Prop := fnExactVerseSyllablesRow.holds Tryd.pinned (OpenSpec.ofChange fnExactVerseSyllablesSpec)

/-- ITS FALSE NEIGHBOUR: 'it returns false'. Refute it at one input. -/
def fnExactVerseSyllablesWrong : ChangeSpec := { name := "fnExactVerseSyllables", fn := fun _ => fun
  | [d] => { results := [.lit (.bool false)], args := [d] }
  | _ => none }
def FnExactVerseSyllablesWrongFalsely : Prop := fnExactVerseSyllablesRow.holds Tryd.pinned (OpenSpec.ofChange fnExactVerseSyllablesWrong)

/-- 'laws.FnExactVerseGap': WHATEVER THE INPUT: true; the input reads as it did. -/
def fnExactVerseGapSpec : ChangeSpec := { name := "fnExactVerseGap", fn := fun _ => fun
  | [d] => { results := [.lit (.bool true)], args := [d] }
  | _ => none }
def fnExactVerseGapRow : OpenClaim := { program := "ytocpicgepgphoaadoor", sum := "a9d89b074c4a17aef8ff38df572f5f0f22b20a044f46c44b464355fdcbbbe5be", func := "loop.example/neumes/laws.FnExactVerseGap", spec := "fnExactVerseGap", inPlace := ["internal/bytealg.IndexByteString", "internal/bytealg.IndexString"], named := ["internal/bytealg.MaxLen", "unicode/utf8.first", "unicode/utf8.acceptRanges"], apart := false, laid := [("unicode/utf8.acceptRanges", laid_unicode_utf8_acceptRanges), ("unicode/utf8.first", laid_unicode_utf8_first)] }
def FnExactVerseGapSaid : Prop := fnExactVerseGapRow.holds Tryd.pinned (OpenSpec.ofChange fnExactVerseGapSpec)

/-- ITS FALSE NEIGHBOUR: 'it returns false'. Refute it at one input. -/
def fnExactVerseGapWrong : ChangeSpec := { name := "fnExactVerseGap", fn := fun _ => fun
  | [d] => { results := [.lit (.bool false)], args := [d] }
  | _ => none }
def FnExactVerseGapWrongFalsely : Prop := fnExactVerseGapRow.holds Tryd.pinned (OpenSpec.ofChange fnExactVerseGapWrong)

/-- 'laws.FnExactVerseEnds': WHATEVER THE INPUT: true; the input reads as it did. -/
def fnExactVerseEndsSpec : ChangeSpec := { name := "fnExactVerseEnds", fn := fun _ => fun
  | [d] => { results := [.lit (.bool true)], args := [d] }
  | _ => none }
def fnExactVerseEndsRow : OpenClaim := { program := "ytocpicgepgphoaadoor", sum := "a9d89b074c4a17aef8ff38df572f5f0f22b20a044f46c44b464355fdcbbbe5be", func := "loop.example/neumes/laws.FnExactVerseEnds", spec := "fnExactVerseEnds", inPlace := ["internal/bytealg.IndexByteString", "internal/bytealg.IndexString"], named := ["internal/bytealg.MaxLen", "unicode/utf8.first", "unicode/utf8.acceptRanges"], apart := false, laid := [("unicode/utf8.acceptRanges", laid_unicode_utf8_acceptRanges), ("unicode/utf8.first", laid_unicode_utf8_first)] }
def FnExactVerseEndsSaid : Prop := fnExactVerseEndsRow.holds Tryd.pinned (OpenSpec.ofChange fnExactVerseEndsSpec)

/-- ITS FALSE NEIGHBOUR: 'it returns false'. Refute it at one input. -/
def fnExactVerseEndsWrong : ChangeSpec := { name := "fnExactVerseEnds", fn := fun _ => fun
  | [d] => { results := [.lit (.bool false)], args := [d] }
  | _ => none }
def FnExactVerseEndsWrongFalsely : Prop := fnExactVerseEndsRow.holds Tryd.pinned (OpenSpec.ofChange fnExactVerseEndsWrong)

/-- 'laws.FnExactVerseAccents': WHATEVER THE INPUT: true; the input reads as it did. -/
def fnExactVerseAccentsSpec : ChangeSpec := { name := "fnExactVerseAccents", fn := fun _ => fun
  | [d] => { results := [.lit (.bool true)], args := [d] }
  | _ => none }
def fnExactVerseAccentsRow : OpenClaim := { program := "ytocpicgepgphoaadoor", sum := "a9d89b074c4a17aef8ff38df572f5f0f22b20a044f46c44b464355fdcbbbe5be", func := "loop.example/neumes/laws.FnExactVerseAccents", spec := "fnExactVerseAccents", inPlace := ["internal/bytealg.IndexByteString", "internal/bytealg.IndexString"], named := ["internal/bytealg.MaxLen", "unicode/utf8.first", "unicode/utf8.acceptRanges"], apart := false, laid := [("unicode/utf8.acceptRanges", laid_unicode_utf8_acceptRanges), ("unicode/utf8.first", laid_unicode_utf8_first)] }
def FnExactVerseAccentsSaid : Prop := fnExactVerseAccentsRow.holds Tryd.pinned (OpenSpec.ofChange fnExactVerseAccentsSpec)

/-- ITS FALSE NEIGHBOUR: 'it returns false'. Refute it at one input. -/
def fnExactVerseAccentsWrong : ChangeSpec := { name := "fnExactVerseAccents", fn := fun _ => fun
  | [d] => { results := [.lit (.bool false)], args := [d] }
  | _ => none }
def FnExactVerseAccentsWrongFalsely : Prop := fnExactVerseAccentsRow.holds Tryd.pinned (OpenSpec.ofChange fnExactVerseAccentsWrong)

/- THE SECOND FORM. 'bulk': how many values and letters a reading holds, each counted each time it is reached (what is shared counts as often as it is met; a slice's spare places count too). A statement '..UptoSaid' is the law's where the arguments, and the package variables that the reading takes, are together of bulk at most 1048576: NARROWER than '..Said'. Prove '..Said' where nothing that the law and all that it calls make is longer than what came in: it says more and counts as full. Else prove '..UptoSaid'. A law counts once. -/
mutual
def uptoBulk {H : Type} : DataW H → Nat
  | .lit (.string bytes) => bytes.length + 1
  | .lit _ => 1
  | .nil => 1
  | .ptr d => uptoBulk d + 1
  | .slice elems spare => uptoBulkAll elems + uptoBulkAll spare + 1
  | .agg parts => uptoBulkAll parts + 1
  | .iface _ d => uptoBulk d + 1
  | .map entries => uptoBulkEntries entries + 1
  | .held _ => 1
def uptoBulkAll {H : Type} : List (DataW H) → Nat
  | [] => 0
  | d :: r => uptoBulk d + uptoBulkAll r
def uptoBulkEntries {H : Type} : List (Lit × DataW H) → Nat
  | [] => 0
  | x :: r => uptoBulkEntry x + uptoBulkEntries r
def uptoBulkEntry {H : Type} : Lit × DataW H → Nat
  | (.string bytes, d) => bytes.length + uptoBulk d + 1
  | (_, d) => uptoBulk d + 1
 end
def uptoSmall : (H : Type) → List (DataW H) → Bool := fun _ ds => decide (uptoBulkAll ds ≤ 1048576)
def OpenSpec.upto (s : _root_.Go.ChangeSpec) : _root_.Go.OpenSpec := { _root_.Go.OpenSpec.ofChange s with cond := some uptoSmall }

/-- 'laws.FnVerse', WHERE WHAT IT READS IS OF BULK AT MOST 1048576: true; the input reads as it did. -/
def fnVerseUptoRow : OpenClaim := { program := "ytocpicgepgphoaadoor", sum := "a9d89b074c4a17aef8ff38df572f5f0f22b20a044f46c44b464355fdcbbbe5be", func := "loop.example/neumes/laws.FnVerse", spec := "fnVerse", inPlace := ["internal/bytealg.IndexByteString", "internal/bytealg.IndexString"], named := ["internal/bytealg.MaxLen", "unicode/utf8.first", "unicode/utf8.acceptRanges"], apart := false, laid := [("unicode/utf8.acceptRanges", laid_unicode_utf8_acceptRanges), ("unicode/utf8.first", laid_unicode_utf8_first)], narrowed := true }
def FnVerseUptoSaid : Prop := fnVerseUptoRow.holds Tryd.pinned (OpenSpec.upto fnVerseSpec)

/-- 'laws.FnVerseGap', WHERE WHAT IT READS IS OF BULK AT MOST 1048576: true; the input reads as it did. -/
def fnVerseGapUptoRow : OpenClaim := { program := "ytocpicgepgphoaadoor", sum := "a9d89b074c4a17aef8ff38df572f5f0f22b20a044f46c44b464355fdcbbbe5be", func := "loop.example/neumes/laws.FnVerseGap", spec := "fnVerseGap", inPlace := ["internal/bytealg.IndexByteString", "internal/bytealg.IndexString"], named := ["internal/bytealg.MaxLen", "unicode/utf8.first", "unicode/utf8.acceptRanges"], apart := false, laid := [("unicode/utf8.acceptRanges", laid_unicode_utf8_acceptRanges), ("unicode/utf8.first", laid_unicode_utf8_first)], narrowed := true }
def FnVerseGapUptoSaid : Prop := fnVerseGapUptoRow.holds Tryd.pinned (OpenSpec.upto fnVerseGapSpec)

/-- 'laws.FnVerseAccents', WHERE WHAT IT READS IS OF BULK AT MOST 1048576: true; the input reads as it did. -/
def fnVerseAccentsUptoRow : OpenClaim := { program := "ytocpicgepgphoaadoor", sum := "a9d89b074c4a17aef8ff38df572f5f0f22b20a044f46c44b464355fdcbbbe5be", func := "loop.example/neumes/laws.FnVerseAccents", spec := "fnVerseAccents", inPlace := ["internal/bytealg.IndexByteString", "internal/bytealg.IndexString"], named := ["internal/bytealg.MaxLen", "unicode/utf8.first", "unicode/utf8.acceptRanges"], apart := false, laid := [("unicode/utf8.acceptRanges", laid_unicode_utf8_acceptRanges), ("unicode/utf8.first", laid_unicode_utf8_first)], narrowed := true }
def FnVerseAccentsUptoSaid : Prop := fnVerseAccentsUptoRow.holds Tryd.pinned (OpenSpec.upto fnVerseAccentsSpec)

/-- 'laws.FnExactVerseValid', WHERE WHAT IT READS IS OF BULK AT MOST 1048576: true; the input reads as it did. -/
def fnExactVerseValidUptoRow : OpenClaim := { program := "ytocpicgepgphoaadoor", sum := "a9d89b074c4a17aef8ff38df572f5f0f22b20a044f46c44b464355fdcbbbe5be", func := "loop.example/neumes/laws.FnExactVerseValid", spec := "fnExactVerseValid", inPlace := ["internal/bytealg.IndexByteString", "internal/bytealg.IndexString"], named := ["internal/bytealg.MaxLen", "unicode/utf8.first", "unicode/utf8.acceptRanges"], apart := false, laid := [("unicode/utf8.acceptRanges", laid_unicode_utf8_acceptRanges), ("unicode/utf8.first", laid_unicode_utf8_first)], narrowed := true }
def FnExactVerseValidUptoSaid : Prop := fnExactVerseValidUptoRow.holds Tryd.pinned (OpenSpec.upto fnExactVerseValidSpec)

/-- 'laws.FnExactVerseHalves', WHERE WHAT IT READS IS OF BULK AT MOST 1048576: true; the input reads as it did. -/
def fnExactVerseHalvesUptoRow : OpenClaim := { program := "ytocpicgepgphoaadoor", sum := "a9d89b074c4a17aef8ff38df572f5f0f22b20a044f46c44b464355fdcbbbe5be", func := "loop.example/neumes/laws.FnExactVerseHalves", spec := "fnExactVerseHalves", inPlace := ["internal/bytealg.IndexByteString", "internal/bytealg.IndexString"], named := ["internal/bytealg.MaxLen", "unicode/utf8.first", "unicode/utf8.acceptRanges"], apart := false, laid := [("unicode/utf8.acceptRanges", laid_unicode_utf8_acceptRanges), ("unicode/utf8.first", laid_unicode_utf8_first)], narrowed := true }
def FnExactVerseHalvesUptoSaid : Prop := fnExactVerseHalvesUptoRow.holds Tryd.pinned (OpenSpec.upto fnExactVerseHalvesSpec)

/-- 'laws.FnExactVerseSyllables', WHERE WHAT IT READS IS OF BULK AT MOST 1048576: true; the input reads as it did. -/
def fnExactVerseSyllablesUptoRow : OpenClaim := { program := "ytocpicgepgphoaadoor", sum := "a9d89b074c4a17aef8ff38df572f5f0f22b20a044f46c44b464355fdcbbbe5be", func := "loop.example/neumes/laws.FnExactVerseSyllables", spec := "fnExactVerseSyllables", inPlace := ["internal/bytealg.IndexByteString", "internal/bytealg.IndexString"], named := ["internal/bytealg.MaxLen", "unicode/utf8.first", "unicode/utf8.acceptRanges"], apart := false, laid := [("unicode/utf8.acceptRanges", laid_unicode_utf8_acceptRanges), ("unicode/utf8.first", laid_unicode_utf8_first)], narrowed := true }
def FnExactVerseSyllablesUptoSaid : Prop := fnExactVerseSyllablesUptoRow.holds Tryd.pinned (OpenSpec.upto fnExactVerseSyllablesSpec)

/-- 'laws.FnExactVerseGap', WHERE WHAT IT READS IS OF BULK AT MOST 1048576: true; the input reads as it did. -/
def fnExactVerseGapUptoRow : OpenClaim := { program := "ytocpicgepgphoaadoor", sum := "a9d89b074c4a17aef8ff38df572f5f0f22b20a044f46c44b464355fdcbbbe5be", func := "loop.example/neumes/laws.FnExactVerseGap", spec := "fnExactVerseGap", inPlace := ["internal/bytealg.IndexByteString", "internal/bytealg.IndexString"], named := ["internal/bytealg.MaxLen", "unicode/utf8.first", "unicode/utf8.acceptRanges"], apart := false, laid := [("unicode/utf8.acceptRanges", laid_unicode_utf8_acceptRanges), ("unicode/utf8.first", laid_unicode_utf8_first)], narrowed := true }
def FnExactVerseGapUptoSaid : Prop := fnExactVerseGapUptoRow.holds Tryd.pinned (OpenSpec.upto fnExactVerseGapSpec)

/-- 'laws.FnExactVerseEnds', WHERE WHAT IT READS IS OF BULK AT MOST 1048576: true; the input reads as it did. -/
def fnExactVerseEndsUptoRow : OpenClaim := { program := "ytocpicgepgphoaadoor", sum := "a9d89b074c4a17aef8ff38df572f5f0f22b20a044f46c44b464355fdcbbbe5be", func := "loop.example/neumes/laws.FnExactVerseEnds", spec := "fnExactVerseEnds", inPlace := ["internal/bytealg.IndexByteString", "internal/bytealg.IndexString"], named := ["internal/bytealg.MaxLen", "unicode/utf8.first", "unicode/utf8.acceptRanges"], apart := false, laid := [("unicode/utf8.acceptRanges", laid_unicode_utf8_acceptRanges), ("unicode/utf8.first", laid_unicode_utf8_first)], narrowed := true }
def FnExactVerseEndsUptoSaid : Prop := fnExactVerseEndsUptoRow.holds Tryd.pinned (OpenSpec.upto fnExactVerseEndsSpec)

/-- 'laws.FnExactVerseAccents', WHERE WHAT IT READS IS OF BULK AT MOST 1048576: true; the input reads as it did. -/
def fnExactVerseAccentsUptoRow : OpenClaim := { program := "ytocpicgepgphoaadoor", sum := "a9d89b074c4a17aef8ff38df572f5f0f22b20a044f46c44b464355fdcbbbe5be", func := "loop.example/neumes/laws.FnExactVerseAccents", spec := "fnExactVerseAccents", inPlace := ["internal/bytealg.IndexByteString", "internal/bytealg.IndexString"], named := ["internal/bytealg.MaxLen", "unicode/utf8.first", "unicode/utf8.acceptRanges"], apart := false, laid := [("unicode/utf8.acceptRanges", laid_unicode_utf8_acceptRanges), ("unicode/utf8.first", laid_unicode_utf8_first)], narrowed := true }
def FnExactVerseAccentsUptoSaid : Prop := fnExactVerseAccentsUptoRow.holds Tryd.pinned (OpenSpec.upto fnExactVerseAccentsSpec)

end Rows
end Go.Proofs.YtocpicgepgphoaaDoor
