import Derived.Test.YtjoomlhlihcjkaaDoorXMx2
import Derived.Test.YtjoomlhlihcjkaaDoorXMx4
import Derived.Test.YtjoomlhlihcjkaaDoorXMx6
import Derived.Test.YtjoomlhlihcjkaaDoorXMx8
namespace Go.Proofs.YtjoomlhlihcjkaaDoor.ZM
open Go.RowKit Go.Proofs.YtjoomlhlihcjkaaDoor.XM Go.Proofs.YtjoomlhlihcjkaaDoorW.PrintWords Go.Proofs.YtjoomlhlihcjkaaDoorW.PrintLast
theorem spec_mode (a : Int) (h : ¬ (1 ≤ a ∧ a ≤ 8)) : spec_l5Mode.f a = some false := by
  unfold spec_l5Mode.f spec_l6In.f
  by_cases h1 : a ≥ 1
  · rw [if_pos h1, decide_eq_false (by omega)]; rfl
  · rw [if_neg h1]; rfl
theorem impl_mode (a : Int) (h : ¬ (1 ≤ a ∧ a ≤ 8)) : impl_modeAt.f a = some (0, 0, 0, 0, false) := by
  unfold impl_modeAt.f
  rw [if_neg h]
theorem eight (P : Int → Prop) (h : ∀ n : Fin 8, P ((n.val : Int) + 1)) (a : Int) (ha : 1 ≤ a ∧ a ≤ 8) : P a := by
  have := h ⟨(a - 1).toNat, by omega⟩
  have e : (((a - 1).toNat : Nat) : Int) + 1 = a := by omega
  rw [← e]
  exact this
theorem FnExactModeFinal (a : Int) (_ : (Lit.int .i64 a).wf = true) : laws_FnExactModeFinal.f a = some true := by
  by_cases h : 1 ≤ a ∧ a ≤ 8
  · exact eight (fun a => laws_FnExactModeFinal.f a = some true) (by decide +kernel) a h
  · unfold laws_FnExactModeFinal.f spec_ModeFinal.f impl_ModeFinal.f
    rw [spec_mode a h, impl_mode a h]; rfl
theorem FnExactModeTenor (a : Int) (_ : (Lit.int .i64 a).wf = true) : laws_FnExactModeTenor.f a = some true := by
  by_cases h : 1 ≤ a ∧ a ≤ 8
  · exact eight (fun a => laws_FnExactModeTenor.f a = some true) (by decide +kernel) a h
  · unfold laws_FnExactModeTenor.f spec_ModeTenor.f impl_ModeTenor.f
    rw [spec_mode a h, impl_mode a h]; rfl
theorem FnExactModePair (a : Int) (_ : (Lit.int .i64 a).wf = true) : laws_FnExactModePair.f a = some true := by
  by_cases h : 1 ≤ a ∧ a ≤ 8
  · exact eight (fun a => laws_FnExactModePair.f a = some true) (by decide +kernel) a h
  · unfold laws_FnExactModePair.f spec_ModePair.f impl_ModePair.f
    rw [spec_mode a h, impl_mode a h]; rfl
theorem FnExactModeRange (a : Int) (_ : (Lit.int .i64 a).wf = true) : laws_FnExactModeRange.f a = some true := by
  by_cases h : 1 ≤ a ∧ a ≤ 8
  · exact eight (fun a => laws_FnExactModeRange.f a = some true) (by decide +kernel) a h
  · unfold laws_FnExactModeRange.f spec_ModeRange.f impl_ModeRange.f
    rw [spec_mode a h, impl_mode a h]; rfl
end Go.Proofs.YtjoomlhlihcjkaaDoor.ZM
