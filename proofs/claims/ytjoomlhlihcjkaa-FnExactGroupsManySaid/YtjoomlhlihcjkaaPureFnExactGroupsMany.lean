/- FnExactGroupsMany: for every whole number n the law returns true: GroupsMany of the program and of the reference agree. No condition. -/
import Derived.Test.YtjoomlhlihcjkaaPFnExactGroupsManyx1
namespace Go.Proofs.Ytjoomlhlihcjkaa.Pure
open Go.RowKit Go.Proofs.Ytjoomlhlihcjkaa.PFnExactGroupsMany Go.Proofs.YtjoomlhlihcjkaaW.PrintWords Go.Proofs.YtjoomlhlihcjkaaW.PrintLast

theorem small : ∀ n : Fin 25, laws_FnExactGroupsMany.f 400 ((n.val : Nat) : Int) = some true := by decide +kernel
theorem out_of (a0 : Int) (h : a0 < 0 ∨ 24 < a0) : laws_FnExactGroupsMany.f 5 a0 = some true := by
  unfold laws_FnExactGroupsMany.f spec_GroupsMany.f impl_GroupsMany.f spec_l6In.f
  rcases h with h | h
  · rw [if_neg (by omega), if_pos h]
    rfl
  · rw [if_pos (by omega), if_neg (by omega)]
    simp only [Option.bind_some]
    rw [decide_eq_false (by omega), decide_eq_true (by omega)]
    rfl

theorem FnExactGroupsMany : laws_FnExactGroupsMany.Pure := by
  intro a0 _
  by_cases h : a0 < 0 ∨ 24 < a0
  · exact ⟨5, out_of a0 h⟩
  · refine ⟨400, ?_⟩
    have := small ⟨a0.toNat, by omega⟩
    rwa [show ((a0.toNat : Nat) : Int) = a0 from by omega] at this

end Go.Proofs.Ytjoomlhlihcjkaa.Pure
