-- Written by this session's own program (wip/tools/xprint.py) out of the translation. Not trusted: Lean checks it.
import Derived.Test.YtocpicgepgphoaaDoorProg
import Derived.Below
import Derived.Deep.Draws
import Derived.Deep.AppendLies
import Derived.Maps.AppendAt
import Derived.OwnWalk
import Derived.Laws.BytesArg
import Derived.Laws.MakeOwn
import Derived.Laws.OwnMore
import Derived.Deep.OwnRows
import Derived.Tactics
import Derived.Lib.ConvBytes
import Derived.Laws.Slices
import Derived.WalkKit
import Derived.KernelRfl
import Derived.RowKit3
import Derived.Deep.LoopGhost
import Derived.Deep.QuietTactic
import Derived.BigQuiet
import Derived.WideLaws
import Derived.Deep.DeepCutAuto
import Derived.Deep.CutBlock
import Derived.Deep.RegionHeld3
import Derived.Laws.Rows
import Derived.Lib.AppendStr
import Derived.ArgAppend
import Derived.Laws.IdiomCopy
import Derived.OrdersHeld
import Derived.Laws.BitsLemmas
import Derived.RowKit
import Derived.Test.YtocpicgepgphoaaDoorSh
import Derived.Test.YtocpicgepgphoaaDoorWWords
import Derived.Test.YtocpicgepgphoaaDoorWLast
import Derived.Test.YtocpicgepgphoaaDoorWTab
import Derived.Test.YtocpicgepgphoaaDoorWFour
import Derived.Test.YtocpicgepgphoaaDoorWQPut
import Derived.Test.YtocpicgepgphoaaDoorWApart
import Derived.Test.YtocpicgepgphoaaDoorWArr
import Derived.Test.YtocpicgepgphoaaDoorWZeros
import Derived.Test.YtocpicgepgphoaaDoorWFoot
import Derived.Test.YtocpicgepgphoaaDoorWKept
import Derived.Test.YtocpicgepgphoaaDoorWShare
import Derived.Test.YtocpicgepgphoaaDoorWN
import Derived.Test.YtocpicgepgphoaaDoorWFootNe
import Derived.Test.YtocpicgepgphoaaDoorWAt
import Derived.Test.YtocpicgepgphoaaDoorWEqStruct
import Derived.Test.YtocpicgepgphoaaDoorWRepsOne
import Derived.Test.YtocpicgepgphoaaDoorWInv
import Derived.Test.YtocpicgepgphoaaDoorWInvWords
import Derived.Test.YtocpicgepgphoaaDoorWGuard
import Derived.Test.YtocpicgepgphoaaDoorWNEv
import Derived.Test.YtocpicgepgphoaaDoorWMore
namespace Go.Proofs.YtocpicgepgphoaaDoor.XA
open Go.RowKit Go.Proofs.YtocpicgepgphoaaDoorW.PrintWords Go.Proofs.YtocpicgepgphoaaDoorW.PrintLast Go.Proofs.YtocpicgepgphoaaDoorW.PrintMore
attribute [local go_sem] max2_int min2_int max_two min_two max_three min_three max_four min_four   -- for this text's walks alone
set_option linter.unusedVariables false
set_option linter.unusedSimpArgs false



def errW : Option Int → Value
  | none => .nilIface
  | some c => .iface 0 (.int .i64 c)
theorem errW_none : errW none = .nilIface := rfl
theorem errW_some (c : Int) : errW (some c) = .iface 0 (.int .i64 c) := rfl

theorem info3 : (Tryd.prog.info? 3).map (fun i => (i.zero, i.size, i.bytes)) = some (some (.int .i64 0), 1, 8) := by kernel_rfl
theorem info5 : (Tryd.prog.info? 5).map (fun i => (i.zero, i.size, i.bytes)) = some (some (.int .u8 0), 1, 1) := by kernel_rfl
theorem info9 : (Tryd.prog.info? 9).map (fun i => (i.zero, i.size, i.bytes)) = some (some (.string ⟨#[]⟩), 1, 16) := by kernel_rfl
-- the values' own types

/-- internal/bytealg.MaxLen holds some whole number. -/
def GL (w : World) : Prop := ∃ m, w.cell? ⟨0, 0, none⟩ = some (.int .i64 m)
theorem GL.below {w w' : World} (h : GL w) (hb : Below w.heap.size w w') : GL w' := by
  obtain ⟨m, hm⟩ := h
  exact ⟨m, pw_cell_below hb hm⟩
theorem GL.aside {w w' : World} (h : Aside0 (GL w)) (hb : Below w.heap.size w w') : Aside0 (GL w') := ⟨h.out.below hb⟩

end Go.Proofs.YtocpicgepgphoaaDoor.XA
