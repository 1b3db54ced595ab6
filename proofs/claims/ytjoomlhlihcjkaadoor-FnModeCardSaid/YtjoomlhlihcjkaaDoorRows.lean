/-
  NARROWER THAN 'FOR EVERY INPUT', by the rows' own cells (each row's printed sentence says how): FnExactModeFinal: laid · FnExactModeTenor: laid · FnExactModePair: laid · FnExactModeRange: laid · FnExactToneHeight: laid · FnExactToneSemis: laid · FnHeight: laid · FnMode: laid.
  DERIVED. THE GIVEN ROWS OF THIS SEAT. 8 by the template 'for every input the law returns true; each argument reads behind the call as it read before'; 0 by the template 'total and deterministic' (their statements: YtjoomlhlihcjkaaDoorTotals.lean).
  GIVEN WITH THE SEED: the statements are not yours to turn. If you find one false, say at which input.
  Laid BY PROGRAM, IN A SANDBOX (cutbox-rows.mjs): the forced cells as the released guide's own fill.sh prints them over the translation dc3d56b9bb0869c8… (all of the seat's roots in one cut). By AI agents, Wed Nov 11 2026. No macro, syntax, notation, axiom, sorry.
-/
import Derived.Test.YtjoomlhlihcjkaaDoorChecked
import GoSem.Claim
import GoSem.ClaimJoined
import GoSem.ClaimMapViews
import Derived.JoinedTies
import Derived.KernelRfl
namespace Go.Proofs.YtjoomlhlihcjkaaDoor
/- THE CELL 'sum', in the pinned program and in every row, IS THE sha256 OF THE DUMP (.gsa) THAT YtjoomlhlihcjkaaDoorProg.lean LOADS. Nothing in Lean hashes anything: it is a label: what it is worth is what the hold of that sum in a sandbox is worth. -/
noncomputable def Tryd.pinned : Pinned := { name := "ytjoomlhlihcjkaadoor", sum := "dc3d56b9bb0869c8e86eda544f6b125f23f48f6041b2bd75a8f491bb7e50302a", checked := Tryd.checked }
namespace Rows
def none {H : Type} : Left H := { results := [], args := [] }

/- WHAT THE LISTED PACKAGE-LEVEL VARIABLES READ AS WHEN THE CALL BEGINS. Each datum BY PROGRAM (the guide's laid-datum.mjs) off the statement by which the dump's own 'gosem.cut.vars' lays the variable. In a bare row this is a premise. The card (YtjoomlhlihcjkaaDoorCards.lean) ties it to the program's text. -/
def laid_loop_example_neumes_impl_modeRows {H : Type} : DataW H := .agg [.agg [.lit (.int .i64 4), .lit (.int .i64 8), .lit (.int .i64 3), .lit (.int .i64 12)], .agg [.lit (.int .i64 4), .lit (.int .i64 6), .lit (.int .i64 0), .lit (.int .i64 9)], .agg [.lit (.int .i64 5), .lit (.int .i64 10), .lit (.int .i64 4), .lit (.int .i64 13)], .agg [.lit (.int .i64 5), .lit (.int .i64 8), .lit (.int .i64 1), .lit (.int .i64 10)], .agg [.lit (.int .i64 6), .lit (.int .i64 10), .lit (.int .i64 5), .lit (.int .i64 14)], .agg [.lit (.int .i64 6), .lit (.int .i64 8), .lit (.int .i64 2), .lit (.int .i64 11)], .agg [.lit (.int .i64 7), .lit (.int .i64 11), .lit (.int .i64 6), .lit (.int .i64 15)], .agg [.lit (.int .i64 7), .lit (.int .i64 10), .lit (.int .i64 3), .lit (.int .i64 12)]]
def laid_loop_example_neumes_impl_letterHeights {H : Type} : DataW H := .agg [.lit (.int .i64 0), .lit (.int .i64 2), .lit (.int .i64 4), .lit (.int .i64 5), .lit (.int .i64 7), .lit (.int .i64 9), .lit (.int .i64 10)]

/-- 'laws.FnExactModeFinal': WHATEVER THE INPUT: true; the input reads as it did. -/
def fnExactModeFinalSpec : ChangeSpec := { name := "fnExactModeFinal", vars := ["loop.example/neumes/impl.modeRows"], fn := fun _ => fun
  | [d, g1] => { results := [.lit (.bool true)], args := [d], vars := [g1] }
  | _ => none }
def fnExactModeFinalRow : OpenClaim := { program := "ytjoomlhlihcjkaadoor", sum := "dc3d56b9bb0869c8e86eda544f6b125f23f48f6041b2bd75a8f491bb7e50302a", func := "loop.example/neumes/laws.FnExactModeFinal", spec := "fnExactModeFinal", named := ["loop.example/neumes/impl.modeRows"], apart := false, laid := [("loop.example/neumes/impl.modeRows", laid_loop_example_neumes_impl_modeRows)] }
def FnExactModeFinalSaid : Prop := fnExactModeFinalRow.holds Tryd.pinned (OpenSpec.ofChange fnExactModeFinalSpec)

/-- ITS FALSE NEIGHBOUR: 'it returns false'. Refute it at one input. -/
def fnExactModeFinalWrong : ChangeSpec := { name := "fnExactModeFinal", vars := ["loop.example/neumes/impl.modeRows"], fn := fun _ => fun
  | [d, g1] => { results := [.lit (.bool false)], args := [d], vars := [g1] }
  | _ => none }
def FnExactModeFinalWrongFalsely : Prop := fnExactModeFinalRow.holds Tryd.pinned (OpenSpec.ofChange fnExactModeFinalWrong)

/-- 'laws.FnExactModeTenor': WHATEVER THE INPUT: true; the input reads as it did. -/
def fnExactModeTenorSpec : ChangeSpec := { name := "fnExactModeTenor", vars := ["loop.example/neumes/impl.modeRows"], fn := fun _ => fun
  | [d, g1] => { results := [.lit (.bool true)], args := [d], vars := [g1] }
  | _ => none }
def fnExactModeTenorRow : OpenClaim := { program := "ytjoomlhlihcjkaadoor", sum := "dc3d56b9bb0869c8e86eda544f6b125f23f48f6041b2bd75a8f491bb7e50302a", func := "loop.example/neumes/laws.FnExactModeTenor", spec := "fnExactModeTenor", named := ["loop.example/neumes/impl.modeRows"], apart := false, laid := [("loop.example/neumes/impl.modeRows", laid_loop_example_neumes_impl_modeRows)] }
def FnExactModeTenorSaid : Prop := fnExactModeTenorRow.holds Tryd.pinned (OpenSpec.ofChange fnExactModeTenorSpec)

/-- ITS FALSE NEIGHBOUR: 'it returns false'. Refute it at one input. -/
def fnExactModeTenorWrong : ChangeSpec := { name := "fnExactModeTenor", vars := ["loop.example/neumes/impl.modeRows"], fn := fun _ => fun
  | [d, g1] => { results := [.lit (.bool false)], args := [d], vars := [g1] }
  | _ => none }
def FnExactModeTenorWrongFalsely : Prop := fnExactModeTenorRow.holds Tryd.pinned (OpenSpec.ofChange fnExactModeTenorWrong)

/-- 'laws.FnExactModePair': WHATEVER THE INPUT: true; the input reads as it did. -/
def fnExactModePairSpec : ChangeSpec := { name := "fnExactModePair", vars := ["loop.example/neumes/impl.modeRows"], fn := fun _ => fun
  | [d, g1] => { results := [.lit (.bool true)], args := [d], vars := [g1] }
  | _ => none }
def fnExactModePairRow : OpenClaim := { program := "ytjoomlhlihcjkaadoor", sum := "dc3d56b9bb0869c8e86eda544f6b125f23f48f6041b2bd75a8f491bb7e50302a", func := "loop.example/neumes/laws.FnExactModePair", spec := "fnExactModePair", named := ["loop.example/neumes/impl.modeRows"], apart := false, laid := [("loop.example/neumes/impl.modeRows", laid_loop_example_neumes_impl_modeRows)] }
def FnExactModePairSaid : Prop := fnExactModePairRow.holds Tryd.pinned (OpenSpec.ofChange fnExactModePairSpec)

/-- ITS FALSE NEIGHBOUR: 'it returns false'. Refute it at one input. -/
def fnExactModePairWrong : ChangeSpec := { name := "fnExactModePair", vars := ["loop.example/neumes/impl.modeRows"], fn := fun _ => fun
  | [d, g1] => { results := [.lit (.bool false)], args := [d], vars := [g1] }
  | _ => none }
def FnExactModePairWrongFalsely : Prop := fnExactModePairRow.holds Tryd.pinned (OpenSpec.ofChange fnExactModePairWrong)

/-- 'laws.FnExactModeRange': WHATEVER THE INPUT: true; the input reads as it did. -/
def fnExactModeRangeSpec : ChangeSpec := { name := "fnExactModeRange", vars := ["loop.example/neumes/impl.modeRows"], fn := fun _ => fun
  | [d, g1] => { results := [.lit (.bool true)], args := [d], vars := [g1] }
  | _ => none }
def fnExactModeRangeRow : OpenClaim := { program := "ytjoomlhlihcjkaadoor", sum := "dc3d56b9bb0869c8e86eda544f6b125f23f48f6041b2bd75a8f491bb7e50302a", func := "loop.example/neumes/laws.FnExactModeRange", spec := "fnExactModeRange", named := ["loop.example/neumes/impl.modeRows"], apart := false, laid := [("loop.example/neumes/impl.modeRows", laid_loop_example_neumes_impl_modeRows)] }
def FnExactModeRangeSaid : Prop := fnExactModeRangeRow.holds Tryd.pinned (OpenSpec.ofChange fnExactModeRangeSpec)

/-- ITS FALSE NEIGHBOUR: 'it returns false'. Refute it at one input. -/
def fnExactModeRangeWrong : ChangeSpec := { name := "fnExactModeRange", vars := ["loop.example/neumes/impl.modeRows"], fn := fun _ => fun
  | [d, g1] => { results := [.lit (.bool false)], args := [d], vars := [g1] }
  | _ => none }
def FnExactModeRangeWrongFalsely : Prop := fnExactModeRangeRow.holds Tryd.pinned (OpenSpec.ofChange fnExactModeRangeWrong)

/-- 'laws.FnExactToneHeight': WHATEVER THE INPUT: true; the input reads as it did. -/
def fnExactToneHeightSpec : ChangeSpec := { name := "fnExactToneHeight", vars := ["loop.example/neumes/impl.letterHeights"], fn := fun _ => fun
  | [d, g1] => { results := [.lit (.bool true)], args := [d], vars := [g1] }
  | _ => none }
def fnExactToneHeightRow : OpenClaim := { program := "ytjoomlhlihcjkaadoor", sum := "dc3d56b9bb0869c8e86eda544f6b125f23f48f6041b2bd75a8f491bb7e50302a", func := "loop.example/neumes/laws.FnExactToneHeight", spec := "fnExactToneHeight", named := ["loop.example/neumes/impl.letterHeights"], apart := false, laid := [("loop.example/neumes/impl.letterHeights", laid_loop_example_neumes_impl_letterHeights)] }
def FnExactToneHeightSaid : Prop := fnExactToneHeightRow.holds Tryd.pinned (OpenSpec.ofChange fnExactToneHeightSpec)

/-- ITS FALSE NEIGHBOUR: 'it returns false'. Refute it at one input. -/
def fnExactToneHeightWrong : ChangeSpec := { name := "fnExactToneHeight", vars := ["loop.example/neumes/impl.letterHeights"], fn := fun _ => fun
  | [d, g1] => { results := [.lit (.bool false)], args := [d], vars := [g1] }
  | _ => none }
def FnExactToneHeightWrongFalsely : Prop := fnExactToneHeightRow.holds Tryd.pinned (OpenSpec.ofChange fnExactToneHeightWrong)

/-- 'laws.FnExactToneSemis': WHATEVER THE INPUT: true; the input reads as it did. -/
def fnExactToneSemisSpec : ChangeSpec := { name := "fnExactToneSemis", vars := ["loop.example/neumes/impl.letterHeights"], fn := fun _ => fun
  | [d1, d2, g1] => { results := [.lit (.bool true)], args := [d1, d2], vars := [g1] }
  | _ => none }
def fnExactToneSemisRow : OpenClaim := { program := "ytjoomlhlihcjkaadoor", sum := "dc3d56b9bb0869c8e86eda544f6b125f23f48f6041b2bd75a8f491bb7e50302a", func := "loop.example/neumes/laws.FnExactToneSemis", spec := "fnExactToneSemis", named := ["loop.example/neumes/impl.letterHeights"], apart := false, laid := [("loop.example/neumes/impl.letterHeights", laid_loop_example_neumes_impl_letterHeights)] }
def FnExactToneSemisSaid : Prop := fnExactToneSemisRow.holds Tryd.pinned (OpenSpec.ofChange fnExactToneSemisSpec)

/-- ITS FALSE NEIGHBOUR: 'it returns false'. Refute it at one input. -/
def fnExactToneSemisWrong : ChangeSpec := { name := "fnExactToneSemis", vars := ["loop.example/neumes/impl.letterHeights"], fn := fun _ => fun
  | [d1, d2, g1] => { results := [.lit (.bool false)], args := [d1, d2], vars := [g1] }
  | _ => none }
def FnExactToneSemisWrongFalsely : Prop := fnExactToneSemisRow.holds Tryd.pinned (OpenSpec.ofChange fnExactToneSemisWrong)

/-- 'laws.FnHeight': WHATEVER THE INPUT: true; the input reads as it did. -/
def fnHeightSpec : ChangeSpec := { name := "fnHeight", vars := ["loop.example/neumes/impl.letterHeights"], fn := fun _ => fun
  | [d, g1] => { results := [.lit (.bool true)], args := [d], vars := [g1] }
  | _ => none }
def fnHeightRow : OpenClaim := { program := "ytjoomlhlihcjkaadoor", sum := "dc3d56b9bb0869c8e86eda544f6b125f23f48f6041b2bd75a8f491bb7e50302a", func := "loop.example/neumes/laws.FnHeight", spec := "fnHeight", named := ["loop.example/neumes/impl.letterHeights"], apart := false, laid := [("loop.example/neumes/impl.letterHeights", laid_loop_example_neumes_impl_letterHeights)] }
def FnHeightSaid : Prop := fnHeightRow.holds Tryd.pinned (OpenSpec.ofChange fnHeightSpec)

/-- ITS FALSE NEIGHBOUR: 'it returns false'. Refute it at one input. -/
def fnHeightWrong : ChangeSpec := { name := "fnHeight", vars := ["loop.example/neumes/impl.letterHeights"], fn := fun _ => fun
  | [d, g1] => { results := [.lit (.bool false)], args := [d], vars := [g1] }
  | _ => none }
def FnHeightWrongFalsely : Prop := fnHeightRow.holds Tryd.pinned (OpenSpec.ofChange fnHeightWrong)

/-- 'laws.FnMode': WHATEVER THE INPUT: true; the input reads as it did. -/
def fnModeSpec : ChangeSpec := { name := "fnMode", vars := ["loop.example/neumes/impl.modeRows"], fn := fun _ => fun
  | [d, g1] => { results := [.lit (.bool true)], args := [d], vars := [g1] }
  | _ => none }
def fnModeRow : OpenClaim := { program := "ytjoomlhlihcjkaadoor", sum := "dc3d56b9bb0869c8e86eda544f6b125f23f48f6041b2bd75a8f491bb7e50302a", func := "loop.example/neumes/laws.FnMode", spec := "fnMode", named := ["loop.example/neumes/impl.modeRows"], apart := false, laid := [("loop.example/neumes/impl.modeRows", laid_loop_example_neumes_impl_modeRows)] }
def FnModeSaid : Prop := fnModeRow.holds Tryd.pinned (OpenSpec.ofChange fnModeSpec)

/-- ITS FALSE NEIGHBOUR: 'it returns false'. Refute it at one input. -/
def fnModeWrong : ChangeSpec := { name := "fnMode", vars := ["loop.example/neumes/impl.modeRows"], fn := fun _ => fun
  | [d, g1] => { results := [.lit (.bool false)], args := [d], vars := [g1] }
  | _ => none }
def FnModeWrongFalsely : Prop := fnModeRow.holds Tryd.pinned (OpenSpec.ofChange fnModeWrong)

/- THE SECOND FORM. 'bulk': how many values and letters a reading holds, each counted each time it is reached (what is shared counts as often as it is met; a slice's spare places count too). A statement '..UptoSaid' is the law's where the arguments, and the package variables that the reading takes, are together of bulk at most 1048576: NARROWER than '..Said'. Prove '..Said' where nothing that the law and all that it calls make is longer than what came in: it says more and counts as full. Else prove '..UptoSaid'. A law counts once. -/
mutual
def uptoBulk {H : Type} : DataW H → Nat
  | .lit (.string bytes) => bytes.length + 1
  | .lit _ => 1
  | .nil => 1
  | .ptr d => uptoBulk d + 1
  | .slice elems spare => uptoBulkAll elems + uptoBulkAll spare + 1
  | .agg parts => uptoBulkAll parts + 1
  | .iface _ d => uptoBulk d + 1
  | .map entries => uptoBulkEntries entries + 1
  | .held _ => 1
def uptoBulkAll {H : Type} : List (DataW H) → Nat
  | [] => 0
  | d :: r => uptoBulk d + uptoBulkAll r
def uptoBulkEntries {H : Type} : List (Lit × DataW H) → Nat
  | [] => 0
  | x :: r => uptoBulkEntry x + uptoBulkEntries r
def uptoBulkEntry {H : Type} : Lit × DataW H → Nat
  | (.string bytes, d) => bytes.length + uptoBulk d + 1
  | (_, d) => uptoBulk d + 1
 end
def uptoSmall : (H : Type) → List (DataW H) → Bool := fun _ ds => decide (uptoBulkAll ds ≤ 1048576)
def OpenSpec.upto (s : _root_.Go.ChangeSpec) : _root_.Go.OpenSpec := { _root_.Go.OpenSpec.ofChange s with cond := some uptoSmall }

/-- 'laws.FnExactModeFinal', WHERE WHAT IT READS IS OF BULK AT MOST 1048576: true; the input reads as it did. -/
def fnExactModeFinalUptoRow : OpenClaim := { program := "ytjoomlhlihcjkaadoor", sum := "dc3d56b9bb0869c8e86eda544f6b125f23f48f6041b2bd75a8f491bb7e50302a", func := "loop.example/neumes/laws.FnExactModeFinal", spec := "fnExactModeFinal", named := ["loop.example/neumes/impl.modeRows"], apart := false, laid := [("loop.example/neumes/impl.modeRows", laid_loop_example_neumes_impl_modeRows)], narrowed := true }
def FnExactModeFinalUptoSaid : Prop := fnExactModeFinalUptoRow.holds Tryd.pinned (OpenSpec.upto fnExactModeFinalSpec)

/-- 'laws.FnExactModeTenor', WHERE WHAT IT READS IS OF BULK AT MOST 1048576: true; the input reads as it did. -/
def fnExactModeTenorUptoRow : OpenClaim := { program := "ytjoomlhlihcjkaadoor", sum := "dc3d56b9bb0869c8e86eda544f6b125f23f48f6041b2bd75a8f491bb7e50302a", func := "loop.example/neumes/laws.FnExactModeTenor", spec := "fnExactModeTenor", named := ["loop.example/neumes/impl.modeRows"], apart := false, laid := [("loop.example/neumes/impl.modeRows", laid_loop_example_neumes_impl_modeRows)], narrowed := true }
def FnExactModeTenorUptoSaid : Prop := fnExactModeTenorUptoRow.holds Tryd.pinned (OpenSpec.upto fnExactModeTenorSpec)

/-- 'laws.FnExactModePair', WHERE WHAT IT READS IS OF BULK AT MOST 1048576: true; the input reads as it did. -/
def fnExactModePairUptoRow : OpenClaim := { program := "ytjoomlhlihcjkaadoor", sum := "dc3d56b9bb0869c8e86eda544f6b125f23f48f6041b2bd75a8f491bb7e50302a", func := "loop.example/neumes/laws.FnExactModePair", spec := "fnExactModePair", named := ["loop.example/neumes/impl.modeRows"], apart := false, laid := [("loop.example/neumes/impl.modeRows", laid_loop_example_neumes_impl_modeRows)], narrowed := true }
def FnExactModePairUptoSaid : Prop := fnExactModePairUptoRow.holds Tryd.pinned (OpenSpec.upto fnExactModePairSpec)

/-- 'laws.FnExactModeRange', WHERE WHAT IT READS IS OF BULK AT MOST 1048576: true; the input reads as it did. -/
def fnExactModeRangeUptoRow : OpenClaim := { program := "ytjoomlhlihcjkaadoor", sum := "dc3d56b9bb0869c8e86eda544f6b125f23f48f6041b2bd75a8f491bb7e50302a", func := "loop.example/neumes/laws.FnExactModeRange", spec := "fnExactModeRange", named := ["loop.example/neumes/impl.modeRows"], apart := false, laid := [("loop.example/neumes/impl.modeRows", laid_loop_example_neumes_impl_modeRows)], narrowed := true }
def FnExactModeRangeUptoSaid : Prop := fnExactModeRangeUptoRow.holds Tryd.pinned (OpenSpec.upto fnExactModeRangeSpec)

/-- 'laws.FnExactToneHeight', WHERE WHAT IT READS IS OF BULK AT MOST 1048576: true; the input reads as it did. -/
def fnExactToneHeightUptoRow : OpenClaim := { program := "ytjoomlhlihcjkaadoor", sum := "dc3d56b9bb0869c8e86eda544f6b125f23f48f6041b2bd75a8f491bb7e50302a", func := "loop.example/neumes/laws.FnExactToneHeight", spec := "fnExactToneHeight", named := ["loop.example/neumes/impl.letterHeights"], apart := false, laid := [("loop.example/neumes/impl.letterHeights", laid_loop_example_neumes_impl_letterHeights)], narrowed := true }
def FnExactToneHeightUptoSaid : Prop := fnExactToneHeightUptoRow.holds Tryd.pinned (OpenSpec.upto fnExactToneHeightSpec)

/-- 'laws.FnExactToneSemis', WHERE WHAT IT READS IS OF BULK AT MOST 1048576: true; the input reads as it did. -/
def fnExactToneSemisUptoRow : OpenClaim := { program := "ytjoomlhlihcjkaadoor", sum := "dc3d56b9bb0869c8e86eda544f6b125f23f48f6041b2bd75a8f491bb7e50302a", func := "loop.example/neumes/laws.FnExactToneSemis", spec := "fnExactToneSemis", named := ["loop.example/neumes/impl.letterHeights"], apart := false, laid := [("loop.example/neumes/impl.letterHeights", laid_loop_example_neumes_impl_letterHeights)], narrowed := true }
def FnExactToneSemisUptoSaid : Prop := fnExactToneSemisUptoRow.holds Tryd.pinned (OpenSpec.upto fnExactToneSemisSpec)

/-- 'laws.FnHeight', WHERE WHAT IT READS IS OF BULK AT MOST 1048576: true; the input reads as it did. -/
def fnHeightUptoRow : OpenClaim := { program := "ytjoomlhlihcjkaadoor", sum := "dc3d56b9bb0869c8e86eda544f6b125f23f48f6041b2bd75a8f491bb7e50302a", func := "loop.example/neumes/laws.FnHeight", spec := "fnHeight", named := ["loop.example/neumes/impl.letterHeights"], apart := false, laid := [("loop.example/neumes/impl.letterHeights", laid_loop_example_neumes_impl_letterHeights)], narrowed := true }
def FnHeightUptoSaid : Prop := fnHeightUptoRow.holds Tryd.pinned (OpenSpec.upto fnHeightSpec)

/-- 'laws.FnMode', WHERE WHAT IT READS IS OF BULK AT MOST 1048576: true; the input reads as it did. -/
def fnModeUptoRow : OpenClaim := { program := "ytjoomlhlihcjkaadoor", sum := "dc3d56b9bb0869c8e86eda544f6b125f23f48f6041b2bd75a8f491bb7e50302a", func := "loop.example/neumes/laws.FnMode", spec := "fnMode", named := ["loop.example/neumes/impl.modeRows"], apart := false, laid := [("loop.example/neumes/impl.modeRows", laid_loop_example_neumes_impl_modeRows)], narrowed := true }
def FnModeUptoSaid : Prop := fnModeUptoRow.holds Tryd.pinned (OpenSpec.upto fnModeSpec)

end Rows
end Go.Proofs.YtjoomlhlihcjkaaDoor
