/- FnExactSingMany: for every input the law returns true, and each argument reads afterwards as it read before. Condition: the package-level variables that the row lists read, when the call begins, as the program's text lays them (the card ties them). -/
import Derived.Test.YtpfgeflnhkpmaaaDoorRows
import Derived.Test.YtpfgeflnhkpmaaaDoorCards
import Derived.Test.YtpfgeflnhkpmaaaDoorTie
import Derived.Test.YtpfgeflnhkpmaaaDoorY0
import Derived.Test.YtpfgeflnhkpmaaaDoorXHx7
import Derived.Test.YtpfgeflnhkpmaaaDoorZHS
import Derived.Test.YtpfgeflnhkpmaaaDoorWSized
import Derived.WalkKit
import Derived.ProofKit
import Derived.OpenShut
import Derived.ShutString
import Derived.ChangeOld
import Derived.Below
import Derived.SizedLaws
import Derived.Deep.DeepHandedRow
import Derived.Lib.LaidTab
import Derived.OpenVars
import Derived.LaidMore
import Derived.SevenTiedAt
namespace Go.Proofs.YtpfgeflnhkpmaaaDoor.fnExactSingMany
open Go.ChangeShapes Go.WideShapes Go.ChangeAt Go.RowKit Go.Proofs.YtpfgeflnhkpmaaaDoor.Y
open Go.ChangeMaps (open_string shut_string)
set_option linter.unusedVariables false
theorem own : ownKnob Tryd.prog.godebug = none := by kernel_rfl
theorem laidOut : laidOutB Tryd.prog = true := by kernel_rfl
theorem g0 : Tryd.prog.globalNamed "loop.example/neumes/impl.letterNames" = some 1 := by kernel_rfl
theorem gt0 : (Tryd.prog.globals[1]?).map (·.type) = some 62 := by kernel_rfl
theorem pl0 : Y.plainT Tryd.prog 4 62 = true := by kernel_rfl
/-- What the row's list gives: the tables' cells. -/
theorem gl_of {W : World} (h : laidMetH Tryd.prog Rows.fnExactSingManyRow.laid W) (_ : W.ShapedOpen Tryd.prog) : XH.GL W := by
  rw [MakeChecks.laidMetH_plain _ _ _ (by kernel_rfl)] at h
  obtain ⟨ps, ⟨g_0, t_0, cs_0, f_0, p_0, q_0, hg_0, ht_0, hv_0, hd_0, _, _⟩, _⟩ := h
  obtain rfl := Option.some.inj (g0.symm.trans hg_0)
  obtain rfl := Option.some.inj (gt0.symm.trans ht_0)
  have e0 := Y.flat_cells (f_0 + 4) _ 4 _ _ pl0 (by omega) (DataW.trod_le (Nat.le_add_right f_0 4) hd_0)
  replace e0 : cs_0.toList = XH.lns.map (fun n => (.string n : Value)) := e0.trans (by kernel_rfl)
  have z0 : XH.GH W := by
    intro i hi
    have hc := World.var?_cell g0 hv_0 i
    rw [hc, ← Array.getElem?_toList, e0]
    exact Y.map_get XH.lns _ hi
  exact z0
set_option maxRecDepth 100000 in
/-- What the walk gives, for every argument and every world that meets the row's list. -/
theorem contract (H : Type) (enc : TypeId × Value → H) (W : World) (base : Nat) (args : Array Value) (ds gs : List (DataW H)) (before : List MemPlace)
    (hval : ∀ (j : Nat) t v, Tryd.f5.params[j]? = some t → args[j]? = some v → Value.okWide Tryd.prog W .any base t v)
    (hW : DataW.Whole enc Tryd.prog Tryd.f5.params.toList Rows.fnExactSingManySpec.vars false W args.toList ds gs before)
    (hsz : (DataW.weightsEach Tryd.prog (Tryd.f5.params.toList ++ (OpenSpec.ofChange Rows.fnExactSingManySpec).bare.plain.varTypes Tryd.prog) (ds ++ gs)).all (· ≤ reachBytes) = true) (hL : laidMetH Tryd.prog Rows.fnExactSingManyRow.laid W) (hS : W.ShapedOpen Tryd.prog) :
    Calls Tryd.prog 5 args W fun e W' => ∃ v, e = .returned v ∧ Rows.fnExactSingManySpec.post enc Tryd.prog Tryd.f5 false true false false W args v W' := by
  have hW' := hW
  obtain ⟨p, q, hA0, hV, rfl, hfz, hnd⟩ := hW
  have hA : DataW.TrodAll enc Tryd.prog W 0 (fun _ => true) true Tryd.f5.params.toList args.toList ds p := hA0
  rw [Tryd.params5] at hA hval hsz
  obtain ⟨v0, vs0, d0, ds0, p0, q0, hargs, rfl, rfl, h0, r0⟩ := trodAll_cons hA
  obtain ⟨rfl, rfl, rfl⟩ := trodAll_nil r0
  obtain rfl : args = #[v0] := by cases args; simp_all
  have hlen := vars_len hV
  have hV2 := hV
  obtain ⟨g1, rfl⟩ := one_of_len (show gs.length = 1 from hlen)
  obtain ⟨A0, len0, cap0, rfl⟩ := okWide_slice Tryd.underlying32 (hval 0 32 v0 rfl rfl)
  have lt0 : ∀ x ∈ p0, x.block < W.heap.size := by obtain ⟨m, hm⟩ := h0; exact DataW.trod_lt m _ _ _ hm
  obtain ⟨l0, rfl, hc0, hr0, hm0, hq0⟩ := slice_of (opens_slice 23 Tryd.underlying32 (opens_iso (fun y => ⟨y.1, y.2⟩) (fun _ => rfl) (opens_pair Tryd.underlying23 (opens_int Tryd.underlying3) (opens_bool Tryd.underlying4) rfl rfl (by kernel_rfl)) : Opens Tryd.prog 23 XH.k23 _) (by kernel_rfl)) h0
  obtain ⟨k, hk⟩ := ZH.FnExactSingMany l0 hm0 hq0
  have hG := (⟨gl_of hL hS⟩ : Go.Proofs.YtpfgeflnhkpmaaaDoorW.PrintWords.Aside0 (XH.GL W))
  clear hA0 hsz hL hS
  refine (XH.laws_FnExactSingMany.calls k _ _ l0 true W hr0 hc0 hk hG).mono fun e W' ⟨he, bel⟩ => ?_
  subst he
  exact ⟨_, rfl, _, _, _, [], _, _, hW', trodAll_mk1 (shut_bool Tryd.underlying4 _), (trodAll_cons_mk (Below.trod laidOut (by kernel_rfl) (of_decide_eq_true (by kernel_rfl)) h0 bel lt0) trodAll_mk0), (Below.trodVars laidOut bel (by kernel_rfl) hV2), bel.frame _, fun h => by cases h⟩
/-- A world for the witness: the settled one, the tables holding what their initialisers lay. -/
noncomputable def laidWorld (os : Os) : World :=
  { World.holding Tryd.prog os ⟨#[], #[], []⟩ with heap := (((World.holding Tryd.prog os ⟨#[], #[], []⟩).heap.modify 0 fun
      | .cells _ t frozen => .cells #[.string ⟨#[117, 116]⟩, .string ⟨#[114, 101]⟩, .string ⟨#[109, 105]⟩, .string ⟨#[102, 97]⟩, .string ⟨#[115, 111, 108]⟩, .string ⟨#[108, 97]⟩] t frozen
      | o => o).modify 1 fun
      | .cells _ t frozen => .cells #[.string ⟨#[71]⟩, .string ⟨#[65]⟩, .string ⟨#[66]⟩, .string ⟨#[67]⟩, .string ⟨#[68]⟩, .string ⟨#[69]⟩, .string ⟨#[70]⟩] t frozen
      | o => o) }
theorem laid_met (os : Os) : laidMetH Tryd.prog Rows.fnExactSingManyRow.laid ((laidWorld os).forCall (fun _ _ => 0) ⟨#[], #[.slice none 0 0], []⟩).memory :=
  MakeChecks.laidMetH_plain _ _ _ (by kernel_rfl) ▸ laidMet_of_run' 8 (by kernel_rfl) (by kernel_rfl)
theorem reads (os : Os) {H : Type} (enc : TypeId × Value → H) : ∃ places, DataW.whole enc Tryd.prog ((laidWorld os).forCall (fun _ _ => 0) ⟨#[], #[.slice none 0 0], []⟩).memory Tryd.f5.params.toList Rows.fnExactSingManySpec.vars false (#[.slice none 0 0] : Array Value).toList 8 = some ([.nil], [Rows.laid_loop_example_neumes_impl_letterNames], places) := by
  have h : (DataW.whole enc Tryd.prog ((laidWorld os).forCall (fun _ _ => 0) ⟨#[], #[.slice none 0 0], []⟩).memory Tryd.f5.params.toList Rows.fnExactSingManySpec.vars false (#[.slice none 0 0] : Array Value).toList 8).map (fun x => (x.1, x.2.1)) = some (([.nil] : List (DataW H)), ([Rows.laid_loop_example_neumes_impl_letterNames] : List (DataW H))) := by kernel_rfl
  obtain ⟨⟨a, b, c⟩, h1, h2⟩ := Option.map_eq_some_iff.1 h
  obtain ⟨e1, e2⟩ := Prod.mk.inj h2
  exact ⟨c, h1.trans (by rw [show a = _ from e1, show b = _ from e2])⟩
set_option maxRecDepth 100000 in
theorem lifted (os : Os) (started : os.Started) (H : Type) (enc : TypeId × Value → H) (F : Stop.Interp) :
    ReturnsInHanded {} Tryd.checked os 5 .any ((OpenSpec.ofChange Rows.fnExactSingManySpec).preRow enc Tryd.prog Tryd.f5 Rows.fnExactSingManyRow.domain false Rows.fnExactSingManyRow.laid) (((OpenSpec.ofChange Rows.fnExactSingManySpec).at F).post enc Tryd.prog Tryd.f5 false true false false) := by
  obtain ⟨places, hx⟩ := reads os enc
  refine returnsInHanded_of_row (C := Tryd.checked) (s := OpenSpec.ofChange Rows.fnExactSingManySpec) own started (by kernel_rfl) Tryd.func5
    (witness_row_at (enc := enc) (C := Tryd.checked) false (laidWorld os) #[.slice none 0 0] rfl (by kernel_rfl) (by kernel_rfl) (by kernel_rfl)
      (OpenSpec.preRow_of_cond 8 hx (by kernel_rfl) (fun k hk => by cases hk) (by kernel_rfl) (laid_met os))) ?_
  intro W base args ds gs before hval hW _ _ hsz hL hS _
  exact contract H enc W base args ds gs before hval hW hsz hL hS
theorem said : Rows.FnExactSingManySaid :=
  OpenClaim.holds_of_cond 5 Tryd.f5 rfl rfl rfl rfl rfl rfl rfl ⟨rfl, rfl, rfl, rfl, rfl⟩ rfl rfl rfl rfl rfl (by kernel_rfl) Tryd.func5 (by kernel_rfl)
    (of_decide_eq_true (by kernel_rfl)) (by unfold Func.isWrapper; first | (rw [if_pos (by decide +kernel)]; kernel_rfl) | (rw [if_neg (by decide +kernel)]; exact ⟨rfl, rfl⟩))
    (fun os started H enc _ F => by rw [OpenClaim.pre_eq_preRow]; exact lifted os started H enc F)
/-- No parameter wants a stand-in; the program's own looks are off. -/
theorem plain (f : FuncId) (fn : Func) (hf : Tryd.pinned.checked.prog.funcNamed "loop.example/neumes/laws.FnExactSingMany" = some f) (hfn : Tryd.pinned.checked.prog.funcs[f]? = some fn) :
    false = Tryd.pinned.checked.prog.looks [] ∧ ∀ (j : Nat) t, fn.params[j]? = some t → Tryd.pinned.checked.prog.wantsStandIn t = false := by
  obtain rfl : f = 5 := Option.some.inj ((show Tryd.prog.funcNamed "loop.example/neumes/laws.FnExactSingMany" = some 5 by kernel_rfl).symm.trans hf) |>.symm
  obtain rfl : fn = Tryd.f5 := (Option.some.inj (Tryd.func5.symm.trans hfn)).symm
  refine ⟨by kernel_rfl, fun j t ht => ?_⟩
  rw [Tryd.params5] at ht
  have hm : t ∈ ([32] : List Nat) := by
    have := Array.mem_of_getElem? ht
    simp at this
    first | (simp; omega) | (rcases this with h | h <;> simp [h]) | (rcases this with h | h | h <;> simp [h])
  have hall : (([32] : List Nat).all fun u => !Tryd.prog.wantsStandIn u) = true := by kernel_rfl
  exact (show Tryd.prog.wantsStandIn t = false by simpa using List.all_eq_true.1 hall t hm)
theorem card : Rows.FnExactSingManyCardSaid :=
  Claim7.holds_tied_plain_at .later [] _ _ _ _ said (fun _ h => by cases h) (by kernel_rfl) (fun _ h => by cases h) fnExactSingMany_row_tie rfl ⟨rfl, rfl⟩ (by kernel_rfl) rfl plain (by kernel_rfl)
end Go.Proofs.YtpfgeflnhkpmaaaDoor.fnExactSingMany
namespace Go.Proofs.YtpfgeflnhkpmaaaDoor
theorem fnExactSingMany_holds : Rows.FnExactSingManyCardSaid := fnExactSingMany.card
end Go.Proofs.YtpfgeflnhkpmaaaDoor
