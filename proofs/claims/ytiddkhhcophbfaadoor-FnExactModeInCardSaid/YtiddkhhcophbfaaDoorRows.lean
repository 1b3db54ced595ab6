/-
  NARROWER THAN 'FOR EVERY INPUT', by the rows' own cells (each row's printed sentence says how): FnMelodySteps: laid · FnExactModeIn: laid · FnMelodyBack: laid · FnExactMelodySemis: laid · FnExactMelodySame: laid.
  DERIVED. THE GIVEN ROWS OF THIS SEAT. 5 by the template 'for every input the law returns true; each argument reads behind the call as it read before'; 0 by the template 'total and deterministic' (their statements: YtiddkhhcophbfaaDoorTotals.lean).
  GIVEN WITH THE SEED: the statements are not yours to turn. If you find one false, say at which input.
  Laid BY PROGRAM, IN A SANDBOX (cutbox-rows.mjs): the forced cells as the released guide's own fill.sh prints them over the translation 4e2dd909a5f7fcdf… (all of the seat's roots in one cut). By AI agents, Wed Nov 11 2026. No macro, syntax, notation, axiom, sorry.
-/
import Derived.Test.YtiddkhhcophbfaaDoorChecked
import GoSem.Claim
import GoSem.ClaimJoined
import GoSem.ClaimMapViews
import Derived.JoinedTies
import Derived.KernelRfl
namespace Go.Proofs.YtiddkhhcophbfaaDoor
/- THE CELL 'sum', in the pinned program and in every row, IS THE sha256 OF THE DUMP (.gsa) THAT YtiddkhhcophbfaaDoorProg.lean LOADS. Nothing in Lean hashes anything: it is a label: what it is worth is what the hold of that sum in a sandbox is worth. -/
noncomputable def Tryd.pinned : Pinned := { name := "ytiddkhhcophbfaadoor", sum := "4e2dd909a5f7fcdfcd51b81268e01772b37dd1fb0ce8825a6be74d4a5058382e", checked := Tryd.checked }
namespace Rows
def none {H : Type} : Left H := { results := [], args := [] }

/- WHAT THE LISTED PACKAGE-LEVEL VARIABLES READ AS WHEN THE CALL BEGINS. Each datum BY PROGRAM (the guide's laid-datum.mjs) off the statement by which the dump's own 'gosem.cut.vars' lays the variable. In a bare row this is a premise. The card (YtiddkhhcophbfaaDoorCards.lean) ties it to the program's text. -/
def laid_loop_example_neumes_impl_letterHeights {H : Type} : DataW H := .agg [.lit (.int .i64 0), .lit (.int .i64 2), .lit (.int .i64 4), .lit (.int .i64 5), .lit (.int .i64 7), .lit (.int .i64 9), .lit (.int .i64 10)]
def laid_loop_example_neumes_impl_modeRows {H : Type} : DataW H := .agg [.agg [.lit (.int .i64 4), .lit (.int .i64 8), .lit (.int .i64 3), .lit (.int .i64 12)], .agg [.lit (.int .i64 4), .lit (.int .i64 6), .lit (.int .i64 0), .lit (.int .i64 9)], .agg [.lit (.int .i64 5), .lit (.int .i64 10), .lit (.int .i64 4), .lit (.int .i64 13)], .agg [.lit (.int .i64 5), .lit (.int .i64 8), .lit (.int .i64 1), .lit (.int .i64 10)], .agg [.lit (.int .i64 6), .lit (.int .i64 10), .lit (.int .i64 5), .lit (.int .i64 14)], .agg [.lit (.int .i64 6), .lit (.int .i64 8), .lit (.int .i64 2), .lit (.int .i64 11)], .agg [.lit (.int .i64 7), .lit (.int .i64 11), .lit (.int .i64 6), .lit (.int .i64 15)], .agg [.lit (.int .i64 7), .lit (.int .i64 10), .lit (.int .i64 3), .lit (.int .i64 12)]]

/-- 'laws.FnMelodySteps': WHATEVER THE INPUT: true; the input reads as it did. -/
def fnMelodyStepsSpec : ChangeSpec := { name := "fnMelodySteps", vars := ["loop.example/neumes/impl.letterHeights"], fn := fun _ => fun
  | [d, g1] => { results := [.lit (.bool true)], args := [d], vars := [g1] }
  | _ => none }
def fnMelodyStepsRow : OpenClaim := { program := "ytiddkhhcophbfaadoor", sum := "4e2dd909a5f7fcdfcd51b81268e01772b37dd1fb0ce8825a6be74d4a5058382e", func := "loop.example/neumes/laws.FnMelodySteps", spec := "fnMelodySteps", unfollowed := true, recurses := true, named := ["loop.example/neumes/impl.letterHeights"], apart := false, laid := [("loop.example/neumes/impl.letterHeights", laid_loop_example_neumes_impl_letterHeights)] }
def FnMelodyStepsSaid : Prop := fnMelodyStepsRow.holds Tryd.pinned (OpenSpec.ofChange fnMelodyStepsSpec)

/-- ITS FALSE NEIGHBOUR: 'it returns false'. Refute it at one input. -/
def fnMelodyStepsWrong : ChangeSpec := { name := "fnMelodySteps", vars := ["loop.example/neumes/impl.letterHeights"], fn := fun _ => fun
  | [d, g1] => { results := [.lit (.bool false)], args := [d], vars := [g1] }
  | _ => none }
def FnMelodyStepsWrongFalsely : Prop := fnMelodyStepsRow.holds Tryd.pinned (OpenSpec.ofChange fnMelodyStepsWrong)

/-- 'laws.FnExactModeIn': WHATEVER THE INPUT: true; the input reads as it did. -/
def fnExactModeInSpec : ChangeSpec := { name := "fnExactModeIn", vars := ["loop.example/neumes/impl.modeRows"], fn := fun _ => fun
  | [d1, d2, g1] => { results := [.lit (.bool true)], args := [d1, d2], vars := [g1] }
  | _ => none }
def fnExactModeInRow : OpenClaim := { program := "ytiddkhhcophbfaadoor", sum := "4e2dd909a5f7fcdfcd51b81268e01772b37dd1fb0ce8825a6be74d4a5058382e", func := "loop.example/neumes/laws.FnExactModeIn", spec := "fnExactModeIn", named := ["loop.example/neumes/impl.modeRows"], apart := false, laid := [("loop.example/neumes/impl.modeRows", laid_loop_example_neumes_impl_modeRows)] }
def FnExactModeInSaid : Prop := fnExactModeInRow.holds Tryd.pinned (OpenSpec.ofChange fnExactModeInSpec)

/-- ITS FALSE NEIGHBOUR: 'it returns false'. Refute it at one input. -/
def fnExactModeInWrong : ChangeSpec := { name := "fnExactModeIn", vars := ["loop.example/neumes/impl.modeRows"], fn := fun _ => fun
  | [d1, d2, g1] => { results := [.lit (.bool false)], args := [d1, d2], vars := [g1] }
  | _ => none }
def FnExactModeInWrongFalsely : Prop := fnExactModeInRow.holds Tryd.pinned (OpenSpec.ofChange fnExactModeInWrong)

/-- 'laws.FnMelodyBack': WHATEVER THE INPUT: true; the input reads as it did. -/
def fnMelodyBackSpec : ChangeSpec := { name := "fnMelodyBack", vars := ["loop.example/neumes/impl.letterHeights"], fn := fun _ => fun
  | [d, g1] => { results := [.lit (.bool true)], args := [d], vars := [g1] }
  | _ => none }
def fnMelodyBackRow : OpenClaim := { program := "ytiddkhhcophbfaadoor", sum := "4e2dd909a5f7fcdfcd51b81268e01772b37dd1fb0ce8825a6be74d4a5058382e", func := "loop.example/neumes/laws.FnMelodyBack", spec := "fnMelodyBack", unfollowed := true, recurses := true, named := ["loop.example/neumes/impl.letterHeights"], apart := false, laid := [("loop.example/neumes/impl.letterHeights", laid_loop_example_neumes_impl_letterHeights)] }
def FnMelodyBackSaid : Prop := fnMelodyBackRow.holds Tryd.pinned (OpenSpec.ofChange fnMelodyBackSpec)

/-- ITS FALSE NEIGHBOUR: 'it returns false'. Refute it at one input. -/
def fnMelodyBackWrong : ChangeSpec := { name := "fnMelodyBack", vars := ["loop.example/neumes/impl.letterHeights"], fn := fun _ => fun
  | [d, g1] => { results := [.lit (.bool false)], args := [d], vars := [g1] }
  | _ => none }
def FnMelodyBackWrongFalsely : Prop := fnMelodyBackRow.holds Tryd.pinned (OpenSpec.ofChange fnMelodyBackWrong)

/-- 'laws.FnExactMelodySemis': WHATEVER THE INPUT: true; the input reads as it did. -/
def fnExactMelodySemisSpec : ChangeSpec := { name := "fnExactMelodySemis", vars := ["loop.example/neumes/impl.letterHeights"], fn := fun _ => fun
  | [d, g1] => { results := [.lit (.bool true)], args := [d], vars := [g1] }
  | _ => none }
def fnExactMelodySemisRow : OpenClaim := { program := "ytiddkhhcophbfaadoor", sum := "4e2dd909a5f7fcdfcd51b81268e01772b37dd1fb0ce8825a6be74d4a5058382e", func := "loop.example/neumes/laws.FnExactMelodySemis", spec := "fnExactMelodySemis", unfollowed := true, recurses := true, named := ["loop.example/neumes/impl.letterHeights"], apart := false, laid := [("loop.example/neumes/impl.letterHeights", laid_loop_example_neumes_impl_letterHeights)] }
def FnExactMelodySemisSaid : Prop := fnExactMelodySemisRow.holds Tryd.pinned (OpenSpec.ofChange fnExactMelodySemisSpec)

/-- ITS FALSE NEIGHBOUR: 'it returns false'. Refute it at one input. -/
def fnExactMelodySemisWrong : ChangeSpec := { name := "fnExactMelodySemis", vars := ["loop.example/neumes/impl.letterHeights"], fn := fun _ => fun
  | [d, g1] => { results := [.lit (.bool false)], args := [d], vars := [g1] }
  | _ => none }
def FnExactMelodySemisWrongFalsely : Prop := fnExactMelodySemisRow.holds Tryd.pinned (OpenSpec.ofChange fnExactMelodySemisWrong)

/-- 'laws.FnExactMelodySame': WHATEVER THE INPUT: true; the input reads as it did. -/
def fnExactMelodySameSpec : ChangeSpec := { name := "fnExactMelodySame", vars := ["loop.example/neumes/impl.letterHeights"], fn := fun _ => fun
  | [d1, d2, g1] => { results := [.lit (.bool true)], args := [d1, d2], vars := [g1] }
  | _ => none }
def fnExactMelodySameRow : OpenClaim := { program := "ytiddkhhcophbfaadoor", sum := "4e2dd909a5f7fcdfcd51b81268e01772b37dd1fb0ce8825a6be74d4a5058382e", func := "loop.example/neumes/laws.FnExactMelodySame", spec := "fnExactMelodySame", unfollowed := true, recurses := true, named := ["loop.example/neumes/impl.letterHeights"], apart := false, laid := [("loop.example/neumes/impl.letterHeights", laid_loop_example_neumes_impl_letterHeights)] }
def FnExactMelodySameSaid : Prop := fnExactMelodySameRow.holds Tryd.pinned (OpenSpec.ofChange fnExactMelodySameSpec)

/-- ITS FALSE NEIGHBOUR: 'it returns false'. Refute it at one input. -/
def fnExactMelodySameWrong : ChangeSpec := { name := "fnExactMelodySame", vars := ["loop.example/neumes/impl.letterHeights"], fn := fun _ => fun
  | [d1, d2, g1] => { results := [.lit (.bool false)], args := [d1, d2], vars := [g1] }
  | _ => none }
def FnExactMelodySameWrongFalsely : Prop := fnExactMelodySameRow.holds Tryd.pinned (OpenSpec.ofChange fnExactMelodySameWrong)

/- THE SECOND FORM. 'bulk': how many values and letters a reading holds, each counted each time it is reached (what is shared counts as often as it is met; a slice's spare places count too). A statement '..UptoSaid' is the law's where the arguments, and the package variables that the reading takes, are together of bulk at most 1048576: NARROWER than '..Said'. Prove '..Said' where nothing that the law and all that it calls make is longer than what came in: it says more and counts as full. Else prove '..UptoSaid'. A law counts once. -/
mutual
def uptoBulk {H : Type} : DataW H → Nat
  | .lit (.string bytes) => bytes.length + 1
  | .lit _ => 1
  | .nil => 1
  | .ptr d => uptoBulk d + 1
  | .slice elems spare => uptoBulkAll elems + uptoBulkAll spare + 1
  | .agg parts => uptoBulkAll parts + 1
  | .iface _ d => uptoBulk d + 1
  | .map entries => uptoBulkEntries entries + 1
  | .held _ => 1
def uptoBulkAll {H : Type} : List (DataW H) → Nat
  | [] => 0
  | d :: r => uptoBulk d + uptoBulkAll r
def uptoBulkEntries {H : Type} : List (Lit × DataW H) → Nat
  | [] => 0
  | x :: r => uptoBulkEntry x + uptoBulkEntries r
def uptoBulkEntry {H : Type} : Lit × DataW H → Nat
  | (.string bytes, d) => bytes.length + uptoBulk d + 1
  | (_, d) => uptoBulk d + 1
 end
def uptoSmall : (H : Type) → List (DataW H) → Bool := fun _ ds => decide (uptoBulkAll ds ≤ 1048576)
def OpenSpec.upto (s : _root_.Go.ChangeSpec) : _root_.Go.OpenSpec := { _root_.Go.OpenSpec.ofChange s with cond := some uptoSmall }

/-- 'laws.FnMelodySteps', WHERE WHAT IT READS IS OF BULK AT MOST 1048576: true; the input reads as it did. -/
def fnMelodyStepsUptoRow : OpenClaim := { program := "ytiddkhhcophbfaadoor", sum := "4e2dd909a5f7fcdfcd51b81268e01772b37dd1fb0ce8825a6be74d4a5058382e", func := "loop.example/neumes/laws.FnMelodySteps", spec := "fnMelodySteps", unfollowed := true, recurses := true, named := ["loop.example/neumes/impl.letterHeights"], apart := false, laid := [("loop.example/neumes/impl.letterHeights", laid_loop_example_neumes_impl_letterHeights)], narrowed := true }
def FnMelodyStepsUptoSaid : Prop := fnMelodyStepsUptoRow.holds Tryd.pinned (OpenSpec.upto fnMelodyStepsSpec)

/-- 'laws.FnExactModeIn', WHERE WHAT IT READS IS OF BULK AT MOST 1048576: true; the input reads as it did. -/
def fnExactModeInUptoRow : OpenClaim := { program := "ytiddkhhcophbfaadoor", sum := "4e2dd909a5f7fcdfcd51b81268e01772b37dd1fb0ce8825a6be74d4a5058382e", func := "loop.example/neumes/laws.FnExactModeIn", spec := "fnExactModeIn", named := ["loop.example/neumes/impl.modeRows"], apart := false, laid := [("loop.example/neumes/impl.modeRows", laid_loop_example_neumes_impl_modeRows)], narrowed := true }
def FnExactModeInUptoSaid : Prop := fnExactModeInUptoRow.holds Tryd.pinned (OpenSpec.upto fnExactModeInSpec)

/-- 'laws.FnMelodyBack', WHERE WHAT IT READS IS OF BULK AT MOST 1048576: true; the input reads as it did. -/
def fnMelodyBackUptoRow : OpenClaim := { program := "ytiddkhhcophbfaadoor", sum := "4e2dd909a5f7fcdfcd51b81268e01772b37dd1fb0ce8825a6be74d4a5058382e", func := "loop.example/neumes/laws.FnMelodyBack", spec := "fnMelodyBack", unfollowed := true, recurses := true, named := ["loop.example/neumes/impl.letterHeights"], apart := false, laid := [("loop.example/neumes/impl.letterHeights", laid_loop_example_neumes_impl_letterHeights)], narrowed := true }
def FnMelodyBackUptoSaid : Prop := fnMelodyBackUptoRow.holds Tryd.pinned (OpenSpec.upto fnMelodyBackSpec)

/-- 'laws.FnExactMelodySemis', WHERE WHAT IT READS IS OF BULK AT MOST 1048576: true; the input reads as it did. -/
def fnExactMelodySemisUptoRow : OpenClaim := { program := "ytiddkhhcophbfaadoor", sum := "4e2dd909a5f7fcdfcd51b81268e01772b37dd1fb0ce8825a6be74d4a5058382e", func := "loop.example/neumes/laws.FnExactMelodySemis", spec := "fnExactMelodySemis", unfollowed := true, recurses := true, named := ["loop.example/neumes/impl.letterHeights"], apart := false, laid := [("loop.example/neumes/impl.letterHeights", laid_loop_example_neumes_impl_letterHeights)], narrowed := true }
def FnExactMelodySemisUptoSaid : Prop := fnExactMelodySemisUptoRow.holds Tryd.pinned (OpenSpec.upto fnExactMelodySemisSpec)

/-- 'laws.FnExactMelodySame', WHERE WHAT IT READS IS OF BULK AT MOST 1048576: true; the input reads as it did. -/
def fnExactMelodySameUptoRow : OpenClaim := { program := "ytiddkhhcophbfaadoor", sum := "4e2dd909a5f7fcdfcd51b81268e01772b37dd1fb0ce8825a6be74d4a5058382e", func := "loop.example/neumes/laws.FnExactMelodySame", spec := "fnExactMelodySame", unfollowed := true, recurses := true, named := ["loop.example/neumes/impl.letterHeights"], apart := false, laid := [("loop.example/neumes/impl.letterHeights", laid_loop_example_neumes_impl_letterHeights)], narrowed := true }
def FnExactMelodySameUptoSaid : Prop := fnExactMelodySameUptoRow.holds Tryd.pinned (OpenSpec.upto fnExactMelodySameSpec)

end Rows
end Go.Proofs.YtiddkhhcophbfaaDoor
