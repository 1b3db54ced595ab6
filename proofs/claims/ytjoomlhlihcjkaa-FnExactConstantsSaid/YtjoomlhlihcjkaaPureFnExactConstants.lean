/- FnExactConstants: the law returns true: every exported constant has the value of the specification. No condition. -/
import Derived.Test.YtjoomlhlihcjkaaPFnExactConstantsx1
namespace Go.Proofs.Ytjoomlhlihcjkaa.Pure
open Go.RowKit Go.Proofs.Ytjoomlhlihcjkaa.PFnExactConstants Go.Proofs.YtjoomlhlihcjkaaW.PrintWords Go.Proofs.YtjoomlhlihcjkaaW.PrintLast

/-- YOURS: laws_FnExactConstants.f  = some true
What it reaches (each with k first where it has rounds; `.mono`: more rounds tell the same; `.l0`, ..: its loops, with `.mono_l`): laws_FnExactConstants.f -/
theorem FnExactConstants : laws_FnExactConstants.Pure := by
  unfold laws_FnExactConstants.Pure
  rfl

end Go.Proofs.Ytjoomlhlihcjkaa.Pure
