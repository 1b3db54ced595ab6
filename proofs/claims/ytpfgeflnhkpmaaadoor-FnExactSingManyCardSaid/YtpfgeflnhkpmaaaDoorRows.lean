/-
  NARROWER THAN 'FOR EVERY INPUT', by the rows' own cells (each row's printed sentence says how): FnExactToneNames: laid · FnExactHexAll: laid · FnExactSingMany: laid.
  DERIVED. THE GIVEN ROWS OF THIS SEAT. 3 by the template 'for every input the law returns true; each argument reads behind the call as it read before'; 0 by the template 'total and deterministic' (their statements: YtpfgeflnhkpmaaaDoorTotals.lean).
  GIVEN WITH THE SEED: the statements are not yours to turn. If you find one false, say at which input.
  Laid BY PROGRAM, IN A SANDBOX (cutbox-rows.mjs): the forced cells as the released guide's own fill.sh prints them over the translation d76618403fd83ef7… (all of the seat's roots in one cut). By AI agents, Wed Nov 11 2026. No macro, syntax, notation, axiom, sorry.
-/
import Derived.Test.YtpfgeflnhkpmaaaDoorChecked
import GoSem.Claim
import GoSem.ClaimJoined
import GoSem.ClaimMapViews
import Derived.JoinedTies
import Derived.KernelRfl
namespace Go.Proofs.YtpfgeflnhkpmaaaDoor
/- THE CELL 'sum', in the pinned program and in every row, IS THE sha256 OF THE DUMP (.gsa) THAT YtpfgeflnhkpmaaaDoorProg.lean LOADS. Nothing in Lean hashes anything: it is a label: what it is worth is what the hold of that sum in a sandbox is worth. -/
noncomputable def Tryd.pinned : Pinned := { name := "ytpfgeflnhkpmaaadoor", sum := "d76618403fd83ef753d9cff4faac6fbb48ce5bb47c5c14f18485cbe5158e84d1", checked := Tryd.checked }
namespace Rows
def none {H : Type} : Left H := { results := [], args := [] }

/- WHAT THE LISTED PACKAGE-LEVEL VARIABLES READ AS WHEN THE CALL BEGINS. Each datum BY PROGRAM (the guide's laid-datum.mjs) off the statement by which the dump's own 'gosem.cut.vars' lays the variable. In a bare row this is a premise. The card (YtpfgeflnhkpmaaaDoorCards.lean) ties it to the program's text. -/
def laid_loop_example_neumes_impl_letterNames {H : Type} : DataW H := .agg [.lit (.string [71]), .lit (.string [65]), .lit (.string [66]), .lit (.string [67]), .lit (.string [68]), .lit (.string [69]), .lit (.string [70])]
def laid_loop_example_neumes_impl_syllableNames {H : Type} : DataW H := .agg [.lit (.string [117, 116]), .lit (.string [114, 101]), .lit (.string [109, 105]), .lit (.string [102, 97]), .lit (.string [115, 111, 108]), .lit (.string [108, 97])]

/-- 'laws.FnExactToneNames': WHATEVER THE INPUT: true; the input reads as it did. -/
def fnExactToneNamesSpec : ChangeSpec := { name := "fnExactToneNames", vars := ["loop.example/neumes/impl.syllableNames", "loop.example/neumes/impl.letterNames"], fn := fun _ => fun
  | [d, g1, g2] => { results := [.lit (.bool true)], args := [d], vars := [g1, g2] }
  | _ => none }
def fnExactToneNamesRow : OpenClaim := { program := "ytpfgeflnhkpmaaadoor", sum := "d76618403fd83ef753d9cff4faac6fbb48ce5bb47c5c14f18485cbe5158e84d1", func := "loop.example/neumes/laws.FnExactToneNames", spec := "fnExactToneNames", named := ["loop.example/neumes/impl.syllableNames", "loop.example/neumes/impl.letterNames"], apart := false, laid := [("loop.example/neumes/impl.letterNames", laid_loop_example_neumes_impl_letterNames), ("loop.example/neumes/impl.syllableNames", laid_loop_example_neumes_impl_syllableNames)] }
def FnExactToneNamesSaid : Prop := fnExactToneNamesRow.holds Tryd.pinned (OpenSpec.ofChange fnExactToneNamesSpec)

/-- ITS FALSE NEIGHBOUR: 'it returns false'. Refute it at one input. -/
def fnExactToneNamesWrong : ChangeSpec := { name := "fnExactToneNames", vars := ["loop.example/neumes/impl.syllableNames", "loop.example/neumes/impl.letterNames"], fn := fun _ => fun
  | [d, g1, g2] => { results := [.lit (.bool false)], args := [d], vars := [g1, g2] }
  | _ => none }
def FnExactToneNamesWrongFalsely : Prop := fnExactToneNamesRow.holds Tryd.pinned (OpenSpec.ofChange fnExactToneNamesWrong)

/-- 'laws.FnExactHexAll': WHATEVER THE INPUT: true; the input reads as it did. -/
def fnExactHexAllSpec : ChangeSpec := { name := "fnExactHexAll", vars := ["loop.example/neumes/impl.letterNames"], fn := fun _ => fun
  | [d, g1] => { results := [.lit (.bool true)], args := [d], vars := [g1] }
  | _ => none }
def fnExactHexAllRow : OpenClaim := { program := "ytpfgeflnhkpmaaadoor", sum := "d76618403fd83ef753d9cff4faac6fbb48ce5bb47c5c14f18485cbe5158e84d1", func := "loop.example/neumes/laws.FnExactHexAll", spec := "fnExactHexAll", named := ["loop.example/neumes/impl.letterNames"], apart := false, laid := [("loop.example/neumes/impl.letterNames", laid_loop_example_neumes_impl_letterNames)] }
def FnExactHexAllSaid : Prop := fnExactHexAllRow.holds Tryd.pinned (OpenSpec.ofChange fnExactHexAllSpec)

/-- ITS FALSE NEIGHBOUR: 'it returns false'. Refute it at one input. -/
def fnExactHexAllWrong : ChangeSpec := { name := "fnExactHexAll", vars := ["loop.example/neumes/impl.letterNames"], fn := fun _ => fun
  | [d, g1] => { results := [.lit (.bool false)], args := [d], vars := [g1] }
  | _ => none }
def FnExactHexAllWrongFalsely : Prop := fnExactHexAllRow.holds Tryd.pinned (OpenSpec.ofChange fnExactHexAllWrong)

/-- 'laws.FnExactSingMany': WHATEVER THE INPUT: true; the input reads as it did. -/
def fnExactSingManySpec : ChangeSpec := { name := "fnExactSingMany", vars := ["loop.example/neumes/impl.letterNames"], fn := fun _ => fun
  | [d, g1] => { results := [.lit (.bool true)], args := [d], vars := [g1] }
  | _ => none }
def fnExactSingManyRow : OpenClaim := { program := "ytpfgeflnhkpmaaadoor", sum := "d76618403fd83ef753d9cff4faac6fbb48ce5bb47c5c14f18485cbe5158e84d1", func := "loop.example/neumes/laws.FnExactSingMany", spec := "fnExactSingMany", named := ["loop.example/neumes/impl.letterNames"], apart := false, laid := [("loop.example/neumes/impl.letterNames", laid_loop_example_neumes_impl_letterNames)] }
def FnExactSingManySaid : Prop := fnExactSingManyRow.holds Tryd.pinned (OpenSpec.ofChange fnExactSingManySpec)

/-- ITS FALSE NEIGHBOUR: 'it returns false'. Refute it at one input. -/
def fnExactSingManyWrong : ChangeSpec := { name := "fnExactSingMany", vars := ["loop.example/neumes/impl.letterNames"], fn := fun _ => fun
  | [d, g1] => { results := [.lit (.bool false)], args := [d], vars := [g1] }
  | _ => none }
def FnExactSingManyWrongFalsely : Prop := fnExactSingManyRow.holds Tryd.pinned (OpenSpec.ofChange fnExactSingManyWrong)

/- THE SECOND FORM. 'bulk': how many values and letters a reading holds, each counted each time it is reached (what is shared counts as often as it is met; a slice's spare places count too). A statement '..UptoSaid' is the law's where the arguments, and the package variables that the reading takes, are together of bulk at most 1048576: NARROWER than '..Said'. Prove '..Said' where nothing that the law and all that it calls make is longer than what came in: it says more and counts as full. Else prove '..UptoSaid'. A law counts once. -/
mutual
def uptoBulk {H : Type} : DataW H → Nat
  | .lit (.string bytes) => bytes.length + 1
  | .lit _ => 1
  | .nil => 1
  | .ptr d => uptoBulk d + 1
  | .slice elems spare => uptoBulkAll elems + uptoBulkAll spare + 1
  | .agg parts => uptoBulkAll parts + 1
  | .iface _ d => uptoBulk d + 1
  | .map entries => uptoBulkEntries entries + 1
  | .held _ => 1
def uptoBulkAll {H : Type} : List (DataW H) → Nat
  | [] => 0
  | d :: r => uptoBulk d + uptoBulkAll r
def uptoBulkEntries {H : Type} : List (Lit × DataW H) → Nat
  | [] => 0
  | x :: r => uptoBulkEntry x + uptoBulkEntries r
def uptoBulkEntry {H : Type} : Lit × DataW H → Nat
  | (.string bytes, d) => bytes.length + uptoBulk d + 1
  | (_, d) => uptoBulk d + 1
 end
def uptoSmall : (H : Type) → List (DataW H) → Bool := fun _ ds => decide (uptoBulkAll ds ≤ 1048576)
def OpenSpec.upto (s : _root_.Go.ChangeSpec) : _root_.Go.OpenSpec := { _root_.Go.OpenSpec.ofChange s with cond := some uptoSmall }

/-- 'laws.FnExactToneNames', WHERE WHAT IT READS IS OF BULK AT MOST 1048576: true; the input reads as it did. -/
def fnExactToneNamesUptoRow : OpenClaim := { program := "ytpfgeflnhkpmaaadoor", sum := "d76618403fd83ef753d9cff4faac6fbb48ce5bb47c5c14f18485cbe5158e84d1", func := "loop.example/neumes/laws.FnExactToneNames", spec := "fnExactToneNames", named := ["loop.example/neumes/impl.syllableNames", "loop.example/neumes/impl.letterNames"], apart := false, laid := [("loop.example/neumes/impl.letterNames", laid_loop_example_neumes_impl_letterNames), ("loop.example/neumes/impl.syllableNames", laid_loop_example_neumes_impl_syllableNames)], narrowed := true }
def FnExactToneNamesUptoSaid : Prop := fnExactToneNamesUptoRow.holds Tryd.pinned (OpenSpec.upto fnExactToneNamesSpec)

/-- 'laws.FnExactHexAll', WHERE WHAT IT READS IS OF BULK AT MOST 1048576: true; the input reads as it did. -/
def fnExactHexAllUptoRow : OpenClaim := { program := "ytpfgeflnhkpmaaadoor", sum := "d76618403fd83ef753d9cff4faac6fbb48ce5bb47c5c14f18485cbe5158e84d1", func := "loop.example/neumes/laws.FnExactHexAll", spec := "fnExactHexAll", named := ["loop.example/neumes/impl.letterNames"], apart := false, laid := [("loop.example/neumes/impl.letterNames", laid_loop_example_neumes_impl_letterNames)], narrowed := true }
def FnExactHexAllUptoSaid : Prop := fnExactHexAllUptoRow.holds Tryd.pinned (OpenSpec.upto fnExactHexAllSpec)

/-- 'laws.FnExactSingMany', WHERE WHAT IT READS IS OF BULK AT MOST 1048576: true; the input reads as it did. -/
def fnExactSingManyUptoRow : OpenClaim := { program := "ytpfgeflnhkpmaaadoor", sum := "d76618403fd83ef753d9cff4faac6fbb48ce5bb47c5c14f18485cbe5158e84d1", func := "loop.example/neumes/laws.FnExactSingMany", spec := "fnExactSingMany", named := ["loop.example/neumes/impl.letterNames"], apart := false, laid := [("loop.example/neumes/impl.letterNames", laid_loop_example_neumes_impl_letterNames)], narrowed := true }
def FnExactSingManyUptoSaid : Prop := fnExactSingManyUptoRow.holds Tryd.pinned (OpenSpec.upto fnExactSingManySpec)

end Rows
end Go.Proofs.YtpfgeflnhkpmaaaDoor
