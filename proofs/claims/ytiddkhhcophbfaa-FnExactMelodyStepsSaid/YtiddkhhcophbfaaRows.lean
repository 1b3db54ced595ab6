/-
  No cell of these rows narrows 'for every input' (looked for: loops, veiled, ifaces, maps, wideKeys, modest, calm, conditions, laid).
  DERIVED. THE GIVEN ROWS OF THIS SEAT. 7 by the template 'for every input the law returns true; each argument reads behind the call as it read before'; 0 by the template 'total and deterministic' (their statements: YtiddkhhcophbfaaTotals.lean).
  GIVEN WITH THE SEED: the statements are not yours to turn. If you find one false, say at which input.
  Laid BY PROGRAM, IN A SANDBOX (cutbox-rows.mjs): the forced cells as the released guide's own fill.sh prints them over the translation ef10c9541172b320… (all of the seat's roots in one cut). By AI agents, Wed Nov 11 2026. No macro, syntax, notation, axiom, sorry.
-/
import Derived.Test.YtiddkhhcophbfaaChecked
import GoSem.Claim
import GoSem.ClaimJoined
import GoSem.ClaimMapViews
import Derived.JoinedTies
import Derived.KernelRfl
namespace Go.Proofs.Ytiddkhhcophbfaa
/- THE CELL 'sum', in the pinned program and in every row, IS THE sha256 OF THE DUMP (.gsa) THAT YtiddkhhcophbfaaProg.lean LOADS. Nothing in Lean hashes anything: it is a label: what it is worth is what the hold of that sum in a sandbox is worth. -/
noncomputable def Try.pinned : Pinned := { name := "ytiddkhhcophbfaa", sum := "ef10c9541172b320873d0c914fd733299b91e5ca664e6d8c2b3056f926c2a240", checked := Try.checked }
namespace Rows
def none {H : Type} : Left H := { results := [], args := [] }

/-- 'laws.FnExactMelodyValid': WHATEVER THE INPUT: true; the input reads as it did. -/
def fnExactMelodyValidSpec : ChangeSpec := { name := "fnExactMelodyValid", fn := fun _ => fun
  | [d] => { results := [.lit (.bool true)], args := [d] }
  | _ => none }
def fnExactMelodyValidRow : OpenClaim := { program := "ytiddkhhcophbfaa", sum := "ef10c9541172b320873d0c914fd733299b91e5ca664e6d8c2b3056f926c2a240", func := "loop.example/neumes/laws.FnExactMelodyValid", spec := "fnExactMelodyValid", apart := false }
def FnExactMelodyValidSaid : Prop := fnExactMelodyValidRow.holds Try.pinned (OpenSpec.ofChange fnExactMelodyValidSpec)

/-- ITS FALSE NEIGHBOUR: 'it returns false'. Refute it at one input. -/
def fnExactMelodyValidWrong : ChangeSpec := { name := "fnExactMelodyValid", fn := fun _ => fun
  | [d] => { results := [.lit (.bool false)], args := [d] }
  | _ => none }
def FnExactMelodyValidWrongFalsely : Prop := fnExactMelodyValidRow.holds Try.pinned (OpenSpec.ofChange fnExactMelodyValidWrong)

/-- 'laws.FnExactMelodyRange': WHATEVER THE INPUT: true; the input reads as it did. -/
def fnExactMelodyRangeSpec : ChangeSpec := { name := "fnExactMelodyRange", fn := fun _ => fun
  | [d] => { results := [.lit (.bool true)], args := [d] }
  | _ => none }
def fnExactMelodyRangeRow : OpenClaim := { program := "ytiddkhhcophbfaa", sum := "ef10c9541172b320873d0c914fd733299b91e5ca664e6d8c2b3056f926c2a240", func := "loop.example/neumes/laws.FnExactMelodyRange", spec := "fnExactMelodyRange", apart := false }
def FnExactMelodyRangeSaid : Prop := fnExactMelodyRangeRow.holds Try.pinned (OpenSpec.ofChange fnExactMelodyRangeSpec)

/-- ITS FALSE NEIGHBOUR: 'it returns false'. Refute it at one input. -/
def fnExactMelodyRangeWrong : ChangeSpec := { name := "fnExactMelodyRange", fn := fun _ => fun
  | [d] => { results := [.lit (.bool false)], args := [d] }
  | _ => none }
def FnExactMelodyRangeWrongFalsely : Prop := fnExactMelodyRangeRow.holds Try.pinned (OpenSpec.ofChange fnExactMelodyRangeWrong)

/-- 'laws.FnMelodyRange': WHATEVER THE INPUT: true; the input reads as it did. -/
def fnMelodyRangeSpec : ChangeSpec := { name := "fnMelodyRange", fn := fun _ => fun
  | [d] => { results := [.lit (.bool true)], args := [d] }
  | _ => none }
def fnMelodyRangeRow : OpenClaim := { program := "ytiddkhhcophbfaa", sum := "ef10c9541172b320873d0c914fd733299b91e5ca664e6d8c2b3056f926c2a240", func := "loop.example/neumes/laws.FnMelodyRange", spec := "fnMelodyRange", apart := false }
def FnMelodyRangeSaid : Prop := fnMelodyRangeRow.holds Try.pinned (OpenSpec.ofChange fnMelodyRangeSpec)

/-- ITS FALSE NEIGHBOUR: 'it returns false'. Refute it at one input. -/
def fnMelodyRangeWrong : ChangeSpec := { name := "fnMelodyRange", fn := fun _ => fun
  | [d] => { results := [.lit (.bool false)], args := [d] }
  | _ => none }
def FnMelodyRangeWrongFalsely : Prop := fnMelodyRangeRow.holds Try.pinned (OpenSpec.ofChange fnMelodyRangeWrong)

/-- 'laws.FnExactMelodyJoin': WHATEVER THE INPUT: true; the input reads as it did. -/
def fnExactMelodyJoinSpec : ChangeSpec := { name := "fnExactMelodyJoin", fn := fun _ => fun
  | [d1, d2] => { results := [.lit (.bool true)], args := [d1, d2] }
  | _ => none }
def fnExactMelodyJoinRow : OpenClaim := { program := "ytiddkhhcophbfaa", sum := "ef10c9541172b320873d0c914fd733299b91e5ca664e6d8c2b3056f926c2a240", func := "loop.example/neumes/laws.FnExactMelodyJoin", spec := "fnExactMelodyJoin", apart := false }
def FnExactMelodyJoinSaid : Prop := fnExactMelodyJoinRow.holds Try.pinned (OpenSpec.ofChange fnExactMelodyJoinSpec)

/-- ITS FALSE NEIGHBOUR: 'it returns false'. Refute it at one input. -/
def fnExactMelodyJoinWrong : ChangeSpec := { name := "fnExactMelodyJoin", fn := fun _ => fun
  | [d1, d2] => { results := [.lit (.bool false)], args := [d1, d2] }
  | _ => none }
def FnExactMelodyJoinWrongFalsely : Prop := fnExactMelodyJoinRow.holds Try.pinned (OpenSpec.ofChange fnExactMelodyJoinWrong)

/-- 'laws.FnExactMelodyBack': WHATEVER THE INPUT: true; the input reads as it did. -/
def fnExactMelodyBackSpec : ChangeSpec := { name := "fnExactMelodyBack", fn := fun _ => fun
  | [d] => { results := [.lit (.bool true)], args := [d] }
  | _ => none }
def fnExactMelodyBackRow : OpenClaim := { program := "ytiddkhhcophbfaa", sum := "ef10c9541172b320873d0c914fd733299b91e5ca664e6d8c2b3056f926c2a240", func := "loop.example/neumes/laws.FnExactMelodyBack", spec := "fnExactMelodyBack", apart := false }
def FnExactMelodyBackSaid : Prop := fnExactMelodyBackRow.holds Try.pinned (OpenSpec.ofChange fnExactMelodyBackSpec)

/-- ITS FALSE NEIGHBOUR: 'it returns false'. Refute it at one input. -/
def fnExactMelodyBackWrong : ChangeSpec := { name := "fnExactMelodyBack", fn := fun _ => fun
  | [d] => { results := [.lit (.bool false)], args := [d] }
  | _ => none }
def FnExactMelodyBackWrongFalsely : Prop := fnExactMelodyBackRow.holds Try.pinned (OpenSpec.ofChange fnExactMelodyBackWrong)

/-- 'laws.FnExactPsalmValid': WHATEVER THE INPUT: true; the input reads as it did. -/
def fnExactPsalmValidSpec : ChangeSpec := { name := "fnExactPsalmValid", fn := fun _ => fun
  | [d] => { results := [.lit (.bool true)], args := [d] }
  | _ => none }
def fnExactPsalmValidRow : OpenClaim := { program := "ytiddkhhcophbfaa", sum := "ef10c9541172b320873d0c914fd733299b91e5ca664e6d8c2b3056f926c2a240", func := "loop.example/neumes/laws.FnExactPsalmValid", spec := "fnExactPsalmValid", apart := false }
def FnExactPsalmValidSaid : Prop := fnExactPsalmValidRow.holds Try.pinned (OpenSpec.ofChange fnExactPsalmValidSpec)

/-- ITS FALSE NEIGHBOUR: 'it returns false'. Refute it at one input. -/
def fnExactPsalmValidWrong : ChangeSpec := { name := "fnExactPsalmValid", fn := fun _ => fun
  | [d] => { results := [.lit (.bool false)], args := [d] }
  | _ => none }
def FnExactPsalmValidWrongFalsely : Prop := fnExactPsalmValidRow.holds Try.pinned (OpenSpec.ofChange fnExactPsalmValidWrong)

/-- 'laws.FnExactMelodySteps': WHATEVER THE INPUT: true; the input reads as it did. -/
def fnExactMelodyStepsSpec : ChangeSpec := { name := "fnExactMelodySteps", fn := fun _ => fun
  | [d] => { results := [.lit (.bool true)], args := [d] }
  | _ => none }
def fnExactMelodyStepsRow : OpenClaim := { program := "ytiddkhhcophbfaa", sum := "ef10c9541172b320873d0c914fd733299b91e5ca664e6d8c2b3056f926c2a240", func := "loop.example/neumes/laws.FnExactMelodySteps", spec := "fnExactMelodySteps", unfollowed := true, recurses := true, apart := false }
def FnExactMelodyStepsSaid : Prop := fnExactMelodyStepsRow.holds Try.pinned (OpenSpec.ofChange fnExactMelodyStepsSpec)

/-- ITS FALSE NEIGHBOUR: 'it returns false'. Refute it at one input. -/
def fnExactMelodyStepsWrong : ChangeSpec := { name := "fnExactMelodySteps", fn := fun _ => fun
  | [d] => { results := [.lit (.bool false)], args := [d] }
  | _ => none }
def FnExactMelodyStepsWrongFalsely : Prop := fnExactMelodyStepsRow.holds Try.pinned (OpenSpec.ofChange fnExactMelodyStepsWrong)

/- THE SECOND FORM. 'bulk': how many values and letters a reading holds, each counted each time it is reached (what is shared counts as often as it is met; a slice's spare places count too). A statement '..UptoSaid' is the law's where the arguments, and the package variables that the reading takes, are together of bulk at most 1048576: NARROWER than '..Said'. Prove '..Said' where nothing that the law and all that it calls make is longer than what came in: it says more and counts as full. Else prove '..UptoSaid'. A law counts once. -/
mutual
def uptoBulk {H : Type} : DataW H → Nat
  | .lit (.string bytes) => bytes.length + 1
  | .lit _ => 1
  | .nil => 1
  | .ptr d => uptoBulk d + 1
  | .slice elems spare => uptoBulkAll elems + uptoBulkAll spare + 1
  | .agg parts => uptoBulkAll parts + 1
  | .iface _ d => uptoBulk d + 1
  | .map entries => uptoBulkEntries entries + 1
  | .held _ => 1
def uptoBulkAll {H : Type} : List (DataW H) → Nat
  | [] => 0
  | d :: r => uptoBulk d + uptoBulkAll r
def uptoBulkEntries {H : Type} : List (Lit × DataW H) → Nat
  | [] => 0
  | x :: r => uptoBulkEntry x + uptoBulkEntries r
def uptoBulkEntry {H : Type} : Lit × DataW H → Nat
  | (.string bytes, d) => bytes.length + uptoBulk d + 1
  | (_, d) => uptoBulk d + 1
 end
def uptoSmall : (H : Type) → List (DataW H) → Bool := fun _ ds => decide (uptoBulkAll ds ≤ 1048576)
def OpenSpec.upto (s : _root_.Go.ChangeSpec) : _root_.Go.OpenSpec := { _root_.Go.OpenSpec.ofChange s with cond := some uptoSmall }

/-- 'laws.FnExactMelodyValid', WHERE WHAT IT READS IS OF BULK AT MOST 1048576: true; the input reads as it did. -/
def fnExactMelodyValidUptoRow : OpenClaim := { program := "ytiddkhhcophbfaa", sum := "ef10c9541172b320873d0c914fd733299b91e5ca664e6d8c2b3056f926c2a240", func := "loop.example/neumes/laws.FnExactMelodyValid", spec := "fnExactMelodyValid", apart := false, narrowed := true }
def FnExactMelodyValidUptoSaid : Prop := fnExactMelodyValidUptoRow.holds Try.pinned (OpenSpec.upto fnExactMelodyValidSpec)

/-- 'laws.FnExactMelodyRange', WHERE WHAT IT READS IS OF BULK AT MOST 1048576: true; the input reads as it did. -/
def fnExactMelodyRangeUptoRow : OpenClaim := { program := "ytiddkhhcophbfaa", sum := "ef10c9541172b320873d0c914fd733299b91e5ca664e6d8c2b3056f926c2a240", func := "loop.example/neumes/laws.FnExactMelodyRange", spec := "fnExactMelodyRange", apart := false, narrowed := true }
def FnExactMelodyRangeUptoSaid : Prop := fnExactMelodyRangeUptoRow.holds Try.pinned (OpenSpec.upto fnExactMelodyRangeSpec)

/-- 'laws.FnMelodyRange', WHERE WHAT IT READS IS OF BULK AT MOST 1048576: true; the input reads as it did. -/
def fnMelodyRangeUptoRow : OpenClaim := { program := "ytiddkhhcophbfaa", sum := "ef10c9541172b320873d0c914fd733299b91e5ca664e6d8c2b3056f926c2a240", func := "loop.example/neumes/laws.FnMelodyRange", spec := "fnMelodyRange", apart := false, narrowed := true }
def FnMelodyRangeUptoSaid : Prop := fnMelodyRangeUptoRow.holds Try.pinned (OpenSpec.upto fnMelodyRangeSpec)

/-- 'laws.FnExactMelodyJoin', WHERE WHAT IT READS IS OF BULK AT MOST 1048576: true; the input reads as it did. -/
def fnExactMelodyJoinUptoRow : OpenClaim := { program := "ytiddkhhcophbfaa", sum := "ef10c9541172b320873d0c914fd733299b91e5ca664e6d8c2b3056f926c2a240", func := "loop.example/neumes/laws.FnExactMelodyJoin", spec := "fnExactMelodyJoin", apart := false, narrowed := true }
def FnExactMelodyJoinUptoSaid : Prop := fnExactMelodyJoinUptoRow.holds Try.pinned (OpenSpec.upto fnExactMelodyJoinSpec)

/-- 'laws.FnExactMelodyBack', WHERE WHAT IT READS IS OF BULK AT MOST 1048576: true; the input reads as it did. -/
def fnExactMelodyBackUptoRow : OpenClaim := { program := "ytiddkhhcophbfaa", sum := "ef10c9541172b320873d0c914fd733299b91e5ca664e6d8c2b3056f926c2a240", func := "loop.example/neumes/laws.FnExactMelodyBack", spec := "fnExactMelodyBack", apart := false, narrowed := true }
def FnExactMelodyBackUptoSaid : Prop := fnExactMelodyBackUptoRow.holds Try.pinned (OpenSpec.upto fnExactMelodyBackSpec)

/-- 'laws.FnExactPsalmValid', WHERE WHAT IT READS IS OF BULK AT MOST 1048576: true; the input reads as it did. -/
def fnExactPsalmValidUptoRow : OpenClaim := { program := "ytiddkhhcophbfaa", sum := "ef10c9541172b320873d0c914fd733299b91e5ca664e6d8c2b3056f926c2a240", func := "loop.example/neumes/laws.FnExactPsalmValid", spec := "fnExactPsalmValid", apart := false, narrowed := true }
def FnExactPsalmValidUptoSaid : Prop := fnExactPsalmValidUptoRow.holds Try.pinned (OpenSpec.upto fnExactPsalmValidSpec)

/-- 'laws.FnExactMelodySteps', WHERE WHAT IT READS IS OF BULK AT MOST 1048576: true; the input reads as it did. -/
def fnExactMelodyStepsUptoRow : OpenClaim := { program := "ytiddkhhcophbfaa", sum := "ef10c9541172b320873d0c914fd733299b91e5ca664e6d8c2b3056f926c2a240", func := "loop.example/neumes/laws.FnExactMelodySteps", spec := "fnExactMelodySteps", unfollowed := true, recurses := true, apart := false, narrowed := true }
def FnExactMelodyStepsUptoSaid : Prop := fnExactMelodyStepsUptoRow.holds Try.pinned (OpenSpec.upto fnExactMelodyStepsSpec)

end Rows
end Go.Proofs.Ytiddkhhcophbfaa
