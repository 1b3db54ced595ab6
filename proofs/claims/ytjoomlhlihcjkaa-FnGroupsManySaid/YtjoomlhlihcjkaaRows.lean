/-
  No cell of these rows narrows 'for every input' (looked for: loops, veiled, ifaces, maps, wideKeys, modest, calm, conditions, laid).
  DERIVED. THE GIVEN ROWS OF THIS SEAT. 7 by the template 'for every input the law returns true; each argument reads behind the call as it read before'; 0 by the template 'total and deterministic' (their statements: YtjoomlhlihcjkaaTotals.lean).
  GIVEN WITH THE SEED: the statements are not yours to turn. If you find one false, say at which input.
  Laid BY PROGRAM, IN A SANDBOX (cutbox-rows.mjs): the forced cells as the released guide's own fill.sh prints them over the translation 6dd6fb1aa5510786… (all of the seat's roots in one cut). By AI agents, Wed Nov 11 2026. No macro, syntax, notation, axiom, sorry.
-/
import Derived.Test.YtjoomlhlihcjkaaChecked
import GoSem.Claim
import GoSem.ClaimJoined
import GoSem.ClaimMapViews
import Derived.JoinedTies
import Derived.KernelRfl
namespace Go.Proofs.Ytjoomlhlihcjkaa
/- THE CELL 'sum', in the pinned program and in every row, IS THE sha256 OF THE DUMP (.gsa) THAT YtjoomlhlihcjkaaProg.lean LOADS. Nothing in Lean hashes anything: it is a label: what it is worth is what the hold of that sum in a sandbox is worth. -/
noncomputable def Try.pinned : Pinned := { name := "ytjoomlhlihcjkaa", sum := "6dd6fb1aa551078624a72dc758a4704a2a8be1e49d6859354a0bdd76a3231d9a", checked := Try.checked }
namespace Rows
def none {H : Type} : Left H := { results := [], args := [] }

/-- 'laws.FnExactConstants': WHATEVER THE INPUT: true; the input reads as it did. -/
def fnExactConstantsSpec : ChangeSpec := { name := "fnExactConstants", fn := fun _ => fun
  | [] => { results := [.lit (.bool true)], args := [] }
  | _ => none }
def fnExactConstantsRow : OpenClaim := { program := "ytjoomlhlihcjkaa", sum := "6dd6fb1aa551078624a72dc758a4704a2a8be1e49d6859354a0bdd76a3231d9a", func := "loop.example/neumes/laws.FnExactConstants", spec := "fnExactConstants", apart := false }
def FnExactConstantsSaid : Prop := fnExactConstantsRow.holds Try.pinned (OpenSpec.ofChange fnExactConstantsSpec)

/-- ITS FALSE NEIGHBOUR: 'it returns false'. Refute it at one input. -/
def fnExactConstantsWrong : ChangeSpec := { name := "fnExactConstants", fn := fun _ => fun
  | [] => { results := [.lit (.bool false)], args := [] }
  | _ => none }
def FnExactConstantsWrongFalsely : Prop := fnExactConstantsRow.holds Try.pinned (OpenSpec.ofChange fnExactConstantsWrong)

/-- 'laws.FnExactToneValid': WHATEVER THE INPUT: true; the input reads as it did. -/
def fnExactToneValidSpec : ChangeSpec := { name := "fnExactToneValid", fn := fun _ => fun
  | [d] => { results := [.lit (.bool true)], args := [d] }
  | _ => none }
def fnExactToneValidRow : OpenClaim := { program := "ytjoomlhlihcjkaa", sum := "6dd6fb1aa551078624a72dc758a4704a2a8be1e49d6859354a0bdd76a3231d9a", func := "loop.example/neumes/laws.FnExactToneValid", spec := "fnExactToneValid", apart := false }
def FnExactToneValidSaid : Prop := fnExactToneValidRow.holds Try.pinned (OpenSpec.ofChange fnExactToneValidSpec)

/-- ITS FALSE NEIGHBOUR: 'it returns false'. Refute it at one input. -/
def fnExactToneValidWrong : ChangeSpec := { name := "fnExactToneValid", fn := fun _ => fun
  | [d] => { results := [.lit (.bool false)], args := [d] }
  | _ => none }
def FnExactToneValidWrongFalsely : Prop := fnExactToneValidRow.holds Try.pinned (OpenSpec.ofChange fnExactToneValidWrong)

/-- 'laws.FnExactGroupsMany': WHATEVER THE INPUT: true; the input reads as it did. -/
def fnExactGroupsManySpec : ChangeSpec := { name := "fnExactGroupsMany", fn := fun _ => fun
  | [d] => { results := [.lit (.bool true)], args := [d] }
  | _ => none }
def fnExactGroupsManyRow : OpenClaim := { program := "ytjoomlhlihcjkaa", sum := "6dd6fb1aa551078624a72dc758a4704a2a8be1e49d6859354a0bdd76a3231d9a", func := "loop.example/neumes/laws.FnExactGroupsMany", spec := "fnExactGroupsMany", apart := false }
def FnExactGroupsManySaid : Prop := fnExactGroupsManyRow.holds Try.pinned (OpenSpec.ofChange fnExactGroupsManySpec)

/-- ITS FALSE NEIGHBOUR: 'it returns false'. Refute it at one input. -/
def fnExactGroupsManyWrong : ChangeSpec := { name := "fnExactGroupsMany", fn := fun _ => fun
  | [d] => { results := [.lit (.bool false)], args := [d] }
  | _ => none }
def FnExactGroupsManyWrongFalsely : Prop := fnExactGroupsManyRow.holds Try.pinned (OpenSpec.ofChange fnExactGroupsManyWrong)

/-- 'laws.FnExactToneSteps': WHATEVER THE INPUT: true; the input reads as it did. -/
def fnExactToneStepsSpec : ChangeSpec := { name := "fnExactToneSteps", fn := fun _ => fun
  | [d1, d2] => { results := [.lit (.bool true)], args := [d1, d2] }
  | _ => none }
def fnExactToneStepsRow : OpenClaim := { program := "ytjoomlhlihcjkaa", sum := "6dd6fb1aa551078624a72dc758a4704a2a8be1e49d6859354a0bdd76a3231d9a", func := "loop.example/neumes/laws.FnExactToneSteps", spec := "fnExactToneSteps", apart := false }
def FnExactToneStepsSaid : Prop := fnExactToneStepsRow.holds Try.pinned (OpenSpec.ofChange fnExactToneStepsSpec)

/-- ITS FALSE NEIGHBOUR: 'it returns false'. Refute it at one input. -/
def fnExactToneStepsWrong : ChangeSpec := { name := "fnExactToneSteps", fn := fun _ => fun
  | [d1, d2] => { results := [.lit (.bool false)], args := [d1, d2] }
  | _ => none }
def FnExactToneStepsWrongFalsely : Prop := fnExactToneStepsRow.holds Try.pinned (OpenSpec.ofChange fnExactToneStepsWrong)

/-- 'laws.FnExactToneAbove': WHATEVER THE INPUT: true; the input reads as it did. -/
def fnExactToneAboveSpec : ChangeSpec := { name := "fnExactToneAbove", fn := fun _ => fun
  | [d1, d2, d3] => { results := [.lit (.bool true)], args := [d1, d2, d3] }
  | _ => none }
def fnExactToneAboveRow : OpenClaim := { program := "ytjoomlhlihcjkaa", sum := "6dd6fb1aa551078624a72dc758a4704a2a8be1e49d6859354a0bdd76a3231d9a", func := "loop.example/neumes/laws.FnExactToneAbove", spec := "fnExactToneAbove", apart := false }
def FnExactToneAboveSaid : Prop := fnExactToneAboveRow.holds Try.pinned (OpenSpec.ofChange fnExactToneAboveSpec)

/-- ITS FALSE NEIGHBOUR: 'it returns false'. Refute it at one input. -/
def fnExactToneAboveWrong : ChangeSpec := { name := "fnExactToneAbove", fn := fun _ => fun
  | [d1, d2, d3] => { results := [.lit (.bool false)], args := [d1, d2, d3] }
  | _ => none }
def FnExactToneAboveWrongFalsely : Prop := fnExactToneAboveRow.holds Try.pinned (OpenSpec.ofChange fnExactToneAboveWrong)

/-- 'laws.FnGroupsMany': WHATEVER THE INPUT: true; the input reads as it did. -/
def fnGroupsManySpec : ChangeSpec := { name := "fnGroupsMany", fn := fun _ => fun
  | [d] => { results := [.lit (.bool true)], args := [d] }
  | _ => none }
def fnGroupsManyRow : OpenClaim := { program := "ytjoomlhlihcjkaa", sum := "6dd6fb1aa551078624a72dc758a4704a2a8be1e49d6859354a0bdd76a3231d9a", func := "loop.example/neumes/laws.FnGroupsMany", spec := "fnGroupsMany", apart := false }
def FnGroupsManySaid : Prop := fnGroupsManyRow.holds Try.pinned (OpenSpec.ofChange fnGroupsManySpec)

/-- ITS FALSE NEIGHBOUR: 'it returns false'. Refute it at one input. -/
def fnGroupsManyWrong : ChangeSpec := { name := "fnGroupsMany", fn := fun _ => fun
  | [d] => { results := [.lit (.bool false)], args := [d] }
  | _ => none }
def FnGroupsManyWrongFalsely : Prop := fnGroupsManyRow.holds Try.pinned (OpenSpec.ofChange fnGroupsManyWrong)

/-- 'laws.FnToneAbove': WHATEVER THE INPUT: true; the input reads as it did. -/
def fnToneAboveSpec : ChangeSpec := { name := "fnToneAbove", fn := fun _ => fun
  | [d] => { results := [.lit (.bool true)], args := [d] }
  | _ => none }
def fnToneAboveRow : OpenClaim := { program := "ytjoomlhlihcjkaa", sum := "6dd6fb1aa551078624a72dc758a4704a2a8be1e49d6859354a0bdd76a3231d9a", func := "loop.example/neumes/laws.FnToneAbove", spec := "fnToneAbove", apart := false }
def FnToneAboveSaid : Prop := fnToneAboveRow.holds Try.pinned (OpenSpec.ofChange fnToneAboveSpec)

/-- ITS FALSE NEIGHBOUR: 'it returns false'. Refute it at one input. -/
def fnToneAboveWrong : ChangeSpec := { name := "fnToneAbove", fn := fun _ => fun
  | [d] => { results := [.lit (.bool false)], args := [d] }
  | _ => none }
def FnToneAboveWrongFalsely : Prop := fnToneAboveRow.holds Try.pinned (OpenSpec.ofChange fnToneAboveWrong)

/- THE SECOND FORM. 'bulk': how many values and letters a reading holds, each counted each time it is reached (what is shared counts as often as it is met; a slice's spare places count too). A statement '..UptoSaid' is the law's where the arguments, and the package variables that the reading takes, are together of bulk at most 1048576: NARROWER than '..Said'. Prove '..Said' where nothing that the law and all that it calls make is longer than what came in: it says more and counts as full. Else prove '..UptoSaid'. A law counts once. -/
mutual
def uptoBulk {H : Type} : DataW H → Nat
  | .lit (.string bytes) => bytes.length + 1
  | .lit _ => 1
  | .nil => 1
  | .ptr d => uptoBulk d + 1
  | .slice elems spare => uptoBulkAll elems + uptoBulkAll spare + 1
  | .agg parts => uptoBulkAll parts + 1
  | .iface _ d => uptoBulk d + 1
  | .map entries => uptoBulkEntries entries + 1
  | .held _ => 1
def uptoBulkAll {H : Type} : List (DataW H) → Nat
  | [] => 0
  | d :: r => uptoBulk d + uptoBulkAll r
def uptoBulkEntries {H : Type} : List (Lit × DataW H) → Nat
  | [] => 0
  | x :: r => uptoBulkEntry x + uptoBulkEntries r
def uptoBulkEntry {H : Type} : Lit × DataW H → Nat
  | (.string bytes, d) => bytes.length + uptoBulk d + 1
  | (_, d) => uptoBulk d + 1
 end
def uptoSmall : (H : Type) → List (DataW H) → Bool := fun _ ds => decide (uptoBulkAll ds ≤ 1048576)
def OpenSpec.upto (s : _root_.Go.ChangeSpec) : _root_.Go.OpenSpec := { _root_.Go.OpenSpec.ofChange s with cond := some uptoSmall }

/-- 'laws.FnExactConstants', WHERE WHAT IT READS IS OF BULK AT MOST 1048576: true; the input reads as it did. -/
def fnExactConstantsUptoRow : OpenClaim := { program := "ytjoomlhlihcjkaa", sum := "6dd6fb1aa551078624a72dc758a4704a2a8be1e49d6859354a0bdd76a3231d9a", func := "loop.example/neumes/laws.FnExactConstants", spec := "fnExactConstants", apart := false, narrowed := true }
def FnExactConstantsUptoSaid : Prop := fnExactConstantsUptoRow.holds Try.pinned (OpenSpec.upto fnExactConstantsSpec)

/-- 'laws.FnExactToneValid', WHERE WHAT IT READS IS OF BULK AT MOST 1048576: true; the input reads as it did. -/
def fnExactToneValidUptoRow : OpenClaim := { program := "ytjoomlhlihcjkaa", sum := "6dd6fb1aa551078624a72dc758a4704a2a8be1e49d6859354a0bdd76a3231d9a", func := "loop.example/neumes/laws.FnExactToneValid", spec := "fnExactToneValid", apart := false, narrowed := true }
def FnExactToneValidUptoSaid : Prop := fnExactToneValidUptoRow.holds Try.pinned (OpenSpec.upto fnExactToneValidSpec)

/-- 'laws.FnExactGroupsMany', WHERE WHAT IT READS IS OF BULK AT MOST 1048576: true; the input reads as it did. -/
def fnExactGroupsManyUptoRow : OpenClaim := { program := "ytjoomlhlihcjkaa", sum := "6dd6fb1aa551078624a72dc758a4704a2a8be1e49d6859354a0bdd76a3231d9a", func := "loop.example/neumes/laws.FnExactGroupsMany", spec := "fnExactGroupsMany", apart := false, narrowed := true }
def FnExactGroupsManyUptoSaid : Prop := fnExactGroupsManyUptoRow.holds Try.pinned (OpenSpec.upto fnExactGroupsManySpec)

/-- 'laws.FnExactToneSteps', WHERE WHAT IT READS IS OF BULK AT MOST 1048576: true; the input reads as it did. -/
def fnExactToneStepsUptoRow : OpenClaim := { program := "ytjoomlhlihcjkaa", sum := "6dd6fb1aa551078624a72dc758a4704a2a8be1e49d6859354a0bdd76a3231d9a", func := "loop.example/neumes/laws.FnExactToneSteps", spec := "fnExactToneSteps", apart := false, narrowed := true }
def FnExactToneStepsUptoSaid : Prop := fnExactToneStepsUptoRow.holds Try.pinned (OpenSpec.upto fnExactToneStepsSpec)

/-- 'laws.FnExactToneAbove', WHERE WHAT IT READS IS OF BULK AT MOST 1048576: true; the input reads as it did. -/
def fnExactToneAboveUptoRow : OpenClaim := { program := "ytjoomlhlihcjkaa", sum := "6dd6fb1aa551078624a72dc758a4704a2a8be1e49d6859354a0bdd76a3231d9a", func := "loop.example/neumes/laws.FnExactToneAbove", spec := "fnExactToneAbove", apart := false, narrowed := true }
def FnExactToneAboveUptoSaid : Prop := fnExactToneAboveUptoRow.holds Try.pinned (OpenSpec.upto fnExactToneAboveSpec)

/-- 'laws.FnGroupsMany', WHERE WHAT IT READS IS OF BULK AT MOST 1048576: true; the input reads as it did. -/
def fnGroupsManyUptoRow : OpenClaim := { program := "ytjoomlhlihcjkaa", sum := "6dd6fb1aa551078624a72dc758a4704a2a8be1e49d6859354a0bdd76a3231d9a", func := "loop.example/neumes/laws.FnGroupsMany", spec := "fnGroupsMany", apart := false, narrowed := true }
def FnGroupsManyUptoSaid : Prop := fnGroupsManyUptoRow.holds Try.pinned (OpenSpec.upto fnGroupsManySpec)

/-- 'laws.FnToneAbove', WHERE WHAT IT READS IS OF BULK AT MOST 1048576: true; the input reads as it did. -/
def fnToneAboveUptoRow : OpenClaim := { program := "ytjoomlhlihcjkaa", sum := "6dd6fb1aa551078624a72dc758a4704a2a8be1e49d6859354a0bdd76a3231d9a", func := "loop.example/neumes/laws.FnToneAbove", spec := "fnToneAbove", apart := false, narrowed := true }
def FnToneAboveUptoSaid : Prop := fnToneAboveUptoRow.holds Try.pinned (OpenSpec.upto fnToneAboveSpec)

end Rows
end Go.Proofs.Ytjoomlhlihcjkaa
