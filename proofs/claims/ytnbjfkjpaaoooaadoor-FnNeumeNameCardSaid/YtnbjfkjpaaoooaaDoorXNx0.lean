-- Written by this session's own program (wip/tools/xprint.py) out of the translation. Not trusted: Lean checks it.
import Derived.Test.YtnbjfkjpaaoooaaDoorProg
import Derived.Below
import Derived.Deep.Draws
import Derived.Deep.AppendLies
import Derived.Maps.AppendAt
import Derived.OwnWalk
import Derived.Laws.BytesArg
import Derived.Laws.MakeOwn
import Derived.Laws.OwnMore
import Derived.Deep.OwnRows
import Derived.Tactics
import Derived.Lib.ConvBytes
import Derived.Laws.Slices
import Derived.WalkKit
import Derived.KernelRfl
import Derived.RowKit3
import Derived.Deep.LoopGhost
import Derived.Deep.QuietTactic
import Derived.BigQuiet
import Derived.WideLaws
import Derived.Deep.DeepCutAuto
import Derived.Deep.CutBlock
import Derived.Deep.RegionHeld3
import Derived.Laws.Rows
import Derived.Lib.AppendStr
import Derived.ArgAppend
import Derived.Laws.IdiomCopy
import Derived.OrdersHeld
import Derived.Laws.BitsLemmas
import Derived.RowKit
import Derived.Test.YtnbjfkjpaaoooaaDoorSh
import Derived.Test.YtnbjfkjpaaoooaaDoorWWords
import Derived.Test.YtnbjfkjpaaoooaaDoorWLast
import Derived.Test.YtnbjfkjpaaoooaaDoorWTab
import Derived.Test.YtnbjfkjpaaoooaaDoorWFour
import Derived.Test.YtnbjfkjpaaoooaaDoorWQPut
import Derived.Test.YtnbjfkjpaaoooaaDoorWApart
import Derived.Test.YtnbjfkjpaaoooaaDoorWArr
import Derived.Test.YtnbjfkjpaaoooaaDoorWZeros
import Derived.Test.YtnbjfkjpaaoooaaDoorWFoot
import Derived.Test.YtnbjfkjpaaoooaaDoorWKept
import Derived.Test.YtnbjfkjpaaoooaaDoorWShare
import Derived.Test.YtnbjfkjpaaoooaaDoorWN
import Derived.Test.YtnbjfkjpaaoooaaDoorWFootNe
import Derived.Test.YtnbjfkjpaaoooaaDoorWAt
import Derived.Test.YtnbjfkjpaaoooaaDoorWEqStruct
import Derived.Test.YtnbjfkjpaaoooaaDoorWRepsOne
import Derived.Test.YtnbjfkjpaaoooaaDoorWInv
import Derived.Test.YtnbjfkjpaaoooaaDoorWInvWords
import Derived.Test.YtnbjfkjpaaoooaaDoorWGuard
import Derived.Test.YtnbjfkjpaaoooaaDoorWNEv
import Derived.Test.YtnbjfkjpaaoooaaDoorWMore
namespace Go.Proofs.YtnbjfkjpaaoooaaDoor.XN
open Go.RowKit Go.Proofs.YtnbjfkjpaaoooaaDoorW.PrintWords Go.Proofs.YtnbjfkjpaaoooaaDoorW.PrintLast Go.Proofs.YtnbjfkjpaaoooaaDoorW.PrintMore
attribute [local go_sem] max2_int min2_int max_two min_two max_three min_three max_four min_four   -- for this text's walks alone
set_option linter.unusedVariables false
set_option linter.unusedSimpArgs false



def errW : Option Int → Value
  | none => .nilIface
  | some c => .iface 0 (.int .i64 c)
theorem errW_none : errW none = .nilIface := rfl
theorem errW_some (c : Int) : errW (some c) = .iface 0 (.int .i64 c) := rfl

theorem info5 : (Tryd.prog.info? 5).map (fun i => (i.zero, i.size, i.bytes)) = some (some (.int .u8 0), 1, 1) := by kernel_rfl
theorem info9 : (Tryd.prog.info? 9).map (fun i => (i.zero, i.size, i.bytes)) = some (some (.string ⟨#[]⟩), 1, 16) := by kernel_rfl
-- the values' own types

def nrs : List ByteArray := [⟨#[]⟩, ⟨#[112, 117, 110, 99, 116, 117, 109]⟩, ⟨#[117]⟩, ⟨#[112, 101, 115]⟩, ⟨#[100]⟩, ⟨#[99, 108, 105, 118, 105, 115]⟩, ⟨#[117, 100]⟩, ⟨#[116, 111, 114, 99, 117, 108, 117, 115]⟩, ⟨#[100, 117]⟩, ⟨#[112, 111, 114, 114, 101, 99, 116, 117, 115]⟩, ⟨#[117, 117]⟩, ⟨#[115, 99, 97, 110, 100, 105, 99, 117, 115]⟩, ⟨#[100, 100]⟩, ⟨#[99, 108, 105, 109, 97, 99, 117, 115]⟩]
/-- The table neumeRows holds what the program's text lays. -/
def GL (w : World) : Prop := ∀ i, i < 14 → w.cell? ⟨0, i, none⟩ = some (.string (nrs.getD i ⟨#[]⟩))
theorem GL.below {w w' : World} (h : GL w) (hb : Below w.heap.size w w') : GL w' := fun i hi => pw_cell_below hb (h i hi)
theorem GL.aside {w w' : World} (h : Aside0 (GL w)) (hb : Below w.heap.size w w') : Aside0 (GL w') := ⟨h.out.below hb⟩

end Go.Proofs.YtnbjfkjpaaoooaaDoor.XN
