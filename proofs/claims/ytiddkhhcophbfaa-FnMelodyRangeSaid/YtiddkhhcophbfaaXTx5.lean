-- Written by this session's own program (wip/tools/xprint.py) out of the translation. Not trusted: Lean checks it.
import Derived.Test.YtiddkhhcophbfaaXTx0
import Derived.Test.YtiddkhhcophbfaaXTx2
namespace Go.Proofs.Ytiddkhhcophbfaa.XT
open Go.RowKit Go.Proofs.YtiddkhhcophbfaaW.PrintWords Go.Proofs.YtiddkhhcophbfaaW.PrintLast Go.Proofs.YtiddkhhcophbfaaW.PrintMore
attribute [local go_sem] max2_int min2_int max_two min_two max_three min_three max_four min_four   -- for this text's walks alone
set_option linter.unusedVariables false
set_option linter.unusedSimpArgs false

/-! ### spec_MelodyRange: function 15 -/
mutual
def spec_MelodyRange.j0 : Nat → List (S34) → Bool → Option (Int × Int × Bool)
  | 0, _, _ => none
  | k + 1, x0, x15 => if x15 = true then (some (0, 0, false)) else (if 0 < (x0.length : Int) then (spec_MelodyRange.l0 k x0 ((rd_T34 x0 0).f0) ((rd_T34 x0 0).f0) 0) else (none))
def spec_MelodyRange.l0 : Nat → List (S34) → Int → Int → Int → Option (Int × Int × Bool)
  | 0, _, _, _, _ => none
  | k + 1, x0, x5, x6, x7 => if x7 < (x0.length : Int) then (if 0 ≤ x7 then (spec_MelodyRange.l0 k x0 (mn x5 ((rd_T34 x0 x7).f0)) (mx x6 ((rd_T34 x0 x7).f0)) (wrap64 (x7 + 1))) else (none)) else (some (x5, x6, true))
end
def spec_MelodyRange.f (k : Nat) (l0 : List (S34)) : Option (Int × Int × Bool) := (spec_MelodyValid.f k l0).bind fun t176 => (if t176 = true then (spec_MelodyRange.j0 k l0 ((l0.length : Int) == 0)) else (spec_MelodyRange.j0 k l0 true))
theorem spec_MelodyRange.mono_l : ∀ k, (∀ y0 y1, LeO (spec_MelodyRange.j0 k y0 y1) (spec_MelodyRange.j0 (k + 1) y0 y1)) ∧ (∀ y0 y1 y2 y3, LeO (spec_MelodyRange.l0 k y0 y1 y2 y3) (spec_MelodyRange.l0 (k + 1) y0 y1 y2 y3))
  | 0 => ⟨fun _ _ r h => by simp [spec_MelodyRange.j0] at h, fun _ _ _ _ r h => by simp [spec_MelodyRange.l0] at h⟩
  | k + 1 => by
    obtain ⟨ih0, ih1⟩ := spec_MelodyRange.mono_l k
    refine ⟨?_, ?_⟩
    · intro y0 y1
      unfold spec_MelodyRange.j0
      repeat' first
      | (with_reducible exact ih0 _ _)
      | (with_reducible exact ih1 _ _ _ _)
      | (with_reducible exact spec_MelodyValid.mono _ _)
      | (with_reducible exact LeO.refl _)
      | (with_reducible exact LeO.none _)
      | (with_reducible refine LeO.ite ?_ ?_)
      | (with_reducible refine LeO.bind ?_ (fun _ => ?_))
      | exact ih0 _ _
      | exact ih1 _ _ _ _
      | exact spec_MelodyValid.mono _ _
      | exact LeO.none _
      | refine LeO.ite ?_ ?_
      | refine LeO.bind ?_ (fun _ => ?_)
    · intro y0 y1 y2 y3
      unfold spec_MelodyRange.l0
      repeat' first
      | (with_reducible exact ih0 _ _)
      | (with_reducible exact ih1 _ _ _ _)
      | (with_reducible exact spec_MelodyValid.mono _ _)
      | (with_reducible exact LeO.refl _)
      | (with_reducible exact LeO.none _)
      | (with_reducible refine LeO.ite ?_ ?_)
      | (with_reducible refine LeO.bind ?_ (fun _ => ?_))
      | exact ih0 _ _
      | exact ih1 _ _ _ _
      | exact spec_MelodyValid.mono _ _
      | exact LeO.none _
      | refine LeO.ite ?_ ?_
      | refine LeO.bind ?_ (fun _ => ?_)
theorem spec_MelodyRange.mono : ∀ a0 k, LeO (spec_MelodyRange.f k a0) (spec_MelodyRange.f (k + 1) a0) := by
  intro a0 k
  obtain ⟨ih0, ih1⟩ := spec_MelodyRange.mono_l k
  unfold spec_MelodyRange.f
  repeat' first
      | (with_reducible exact ih0 _ _)
      | (with_reducible exact ih1 _ _ _ _)
      | (with_reducible exact spec_MelodyValid.mono _ _)
      | (with_reducible exact LeO.refl _)
      | (with_reducible exact LeO.none _)
      | (with_reducible refine LeO.ite ?_ ?_)
      | (with_reducible refine LeO.bind ?_ (fun _ => ?_))
      | exact ih0 _ _
      | exact ih1 _ _ _ _
      | exact spec_MelodyValid.mono _ _
      | exact LeO.none _
      | refine LeO.ite ?_ ?_
      | refine LeO.bind ?_ (fun _ => ?_)
set_option maxHeartbeats 8000000 in
set_option maxRecDepth 100000 in
theorem spec_MelodyRange.calls (k : Nat) (A0 : Option Addr) (c0 : Nat) (l0 : List (S34)) (r1 : Int) (r2 : Int) (r3 : Bool) (w : World) (hr0 : Kd.C k34 w A0 l0.length l0) (hc0 : l0.length ≤ c0) (h : spec_MelodyRange.f k l0 = some (r1, r2, r3)) :
    Calls Try.prog 15 #[.slice A0 l0.length c0] w fun e w' => e = .returned (.tuple #[.int .i64 r1, .int .i64 r2, .bool r3]) ∧ Below w.heap.size w w' := by
  have HR0 := Aside0.mk hr0
  have HC0 := Aside0.mk hc0
  clear hr0 hc0
  have HB := Aside0.mk (Below.refl w.heap.size w)
  have H : ((spec_MelodyValid.f k l0).bind fun t176 => (if t176 = true then (spec_MelodyRange.j0 k l0 ((l0.length : Int) == 0)) else (spec_MelodyRange.j0 k l0 true))) = some (r1, r2, r3) := h
  clear h
  have HC2 := Aside0.mk H
  clear H
  go_enter Try.func15, Try.ntmps15
  go_upto_region 1 with (fail)
  go_cut [15] (fun v15 wc => ∃ (kq : Nat) (x15_1 : Bool), v15 = .bool x15_1 ∧ Aside0 (spec_MelodyRange.j0 kq l0 x15_1 = some (r1, r2, r3)) ∧ Aside0 (kq ≤ k) ∧ Aside0 (Below w.heap.size w wc))
  case first =>
    have H := HC2.out
    clear HC2
    replace H := Option.bind_eq_some_iff.mp H
    obtain ⟨t176, A30, H⟩ := H
    replace H : (if t176 = true then (spec_MelodyRange.j0 k l0 ((l0.length : Int) == 0)) else (spec_MelodyRange.j0 k l0 true)) = some (r1, r2, r3) := H
    have A3 := Aside0.mk A30
    clear A30
    by_cases c4 : t176 = true
    · subst c4
      have H1 : (spec_MelodyRange.j0 k l0 ((l0.length : Int) == 0)) = some (r1, r2, r3) := by rw [if_pos rfl] at H; exact H
      clear H
      have H := H1
      clear H1
      have H' := Aside0.mk H
      clear H
      go_wp2_with (first | ((with_reducible refine gate_callee (f := 11) rfl ?_); refine goesL_ (some 9) rfl rfl Try.func11 (by kernel_rfl) rfl #[.slice A0 l0.length c0] rfl (by (try simp only [List.map_toArray, List.map_cons, List.map_nil]); first | done | rfl | (simp only [List.length_drop, List.length_take]; rfl)) ?_; (with_reducible refine (spec_MelodyValid.calls k _ _ l0 true _ ?side1 ?side2 A3.out).mono ?_); (case side1 => repeat (first | exact (Kd.C_below HR0.out HB.out) | (with_reducible refine Kd.C_alloc ?_ _) | (with_reducible refine Kd.C_drewN ?_ _) | (with_reducible refine Kd.C_drew ?_))); (case side2 => exact HC0.out); rintro e w5 ⟨rfl, hb⟩; refine ⟨_, rfl, ?_⟩; have n0_ := Aside0.mk (below_step (by repeat (first | (with_reducible first | exact HB.out | apply below_alloc | apply pw_below_drewN | apply below_drew1) | exact HB.out)) hb); clear HB; have HB := n0_; clear n0_; (try clear hb); (try clear hb2); (try clear hk); (try clear hi)))
      go_meet
      case rel => exact ⟨_, (((l0.length : Int) == 0)), (by first | rfl | (simp; done) | (simp [*]; done)), H', ⟨by first | omega | exact Nat.le_refl _⟩, ⟨by repeat (first | (with_reducible first | exact HB.out | apply below_alloc | apply pw_below_drewN | apply below_drew1) | exact HB.out)⟩⟩
    · replace c4 := Bool.eq_false_iff.mpr c4
      subst c4
      have H1 : (spec_MelodyRange.j0 k l0 true) = some (r1, r2, r3) := by rw [if_neg (show ¬ (false = true) by decide)] at H; exact H
      clear H
      have H := H1
      clear H1
      have H' := Aside0.mk H
      clear H
      go_wp2_with (first | ((with_reducible refine gate_callee (f := 11) rfl ?_); refine goesL_ (some 9) rfl rfl Try.func11 (by kernel_rfl) rfl #[.slice A0 l0.length c0] rfl (by (try simp only [List.map_toArray, List.map_cons, List.map_nil]); first | done | rfl | (simp only [List.length_drop, List.length_take]; rfl)) ?_; (with_reducible refine (spec_MelodyValid.calls k _ _ l0 false _ ?side1 ?side2 A3.out).mono ?_); (case side1 => repeat (first | exact (Kd.C_below HR0.out HB.out) | (with_reducible refine Kd.C_alloc ?_ _) | (with_reducible refine Kd.C_drewN ?_ _) | (with_reducible refine Kd.C_drew ?_))); (case side2 => exact HC0.out); rintro e w6 ⟨rfl, hb⟩; refine ⟨_, rfl, ?_⟩; have n0_ := Aside0.mk (below_step (by repeat (first | (with_reducible first | exact HB.out | apply below_alloc | apply pw_below_drewN | apply below_drew1) | exact HB.out)) hb); clear HB; have HB := n0_; clear n0_; (try clear hb); (try clear hb2); (try clear hk); (try clear hi)))
      go_meet
      case rel => exact ⟨_, (true), (by first | rfl | (simp; done) | (simp [*]; done)), H', ⟨by first | omega | exact Nat.le_refl _⟩, ⟨by repeat (first | (with_reducible first | exact HB.out | apply below_alloc | apply pw_below_drewN | apply below_drew1) | exact HB.out)⟩⟩
  case rest =>
    clear HC2
    try clear c1
    try clear p2
    try clear c4
    obtain ⟨kq, x15_1, rfl, HA, HJ1, HB⟩ := hcut
    cases kq with
    | zero => exact absurd HA.out (by simp [spec_MelodyRange.j0])
    | succ kj1 =>
      have H := HA.out
      clear HA
      simp only [spec_MelodyRange.j0] at H
      by_cases c7 : x15_1 = true
      · subst c7
        have H1 : (some (0, 0, false)) = some (r1, r2, r3) := by rw [if_pos rfl] at H; exact H
        clear H
        have H := H1
        clear H1
        simp only [Option.some.injEq, Prod.mk.injEq] at H
        obtain ⟨rfl, rfl, rfl⟩ := H
        go_wp2
        go_ret3
        exact ⟨by first | rfl | (simp [errW_none, errW_some] <;> rfl) | (simp [*, errW_none, errW_some] <;> rfl), by repeat (first | (with_reducible first | exact HB.out | apply below_alloc | apply pw_below_drewN | apply below_drew1) | exact HB.out)⟩
      · replace c7 := Bool.eq_false_iff.mpr c7
        subst c7
        have H1 : (if 0 < (l0.length : Int) then (spec_MelodyRange.l0 kj1 l0 ((rd_T34 l0 0).f0) ((rd_T34 l0 0).f0) 0) else (none)) = some (r1, r2, r3) := by rw [if_neg (show ¬ (false = true) by decide)] at H; exact H
        clear H
        have H := H1
        clear H1
        by_cases c8 : 0 < (l0.length : Int)
        · rw [if_pos c8] at H
          have c8b0 : decide (0 < (l0.length : Int)) = true := decide_eq_true c8
          have c8b1 : decide (0 < l0.length) = true := decide_eq_true (by omega)
          clear c8
          have H' := Aside0.mk H
          clear H
          have p177 : 0 ≤ (0 : Int) := (by omega)
          have q177 : 0 < (l0.length : Int) := of_decide_eq_true (by first | (with_reducible assumption) | assumption)
          obtain ⟨ad177, e177, hx177_0, hx177_1⟩ := at_T34 HR0.out 0 p177 q177
          cases e177
          have qi177 : (0 < l0.length) = True := eq_true (by omega)
          (try rw [show ((0 : Int)).toNat = 0 from rfl] at hx177_0)
          (try rw [show 0 * 2 = 0 from rfl] at hx177_0)
          (try rw [Addr.add_zero'] at hx177_0)
          (try rw [show ((0 : Int)).toNat = 0 from rfl] at hx177_1)
          (try rw [show 0 * 2 = 0 from rfl] at hx177_1)
          (try rw [Addr.add_zero'] at hx177_1)
          replace hx177_0 := (HB.out.cell (World.block_lt_of_cell? w _ hx177_0)).trans hx177_0
          replace hx177_1 := (HB.out.cell (World.block_lt_of_cell? w _ hx177_1)).trans hx177_1
          replace p177 := eq_true p177
          replace q177 := eq_true q177
          have p178 : 0 ≤ (0 : Int) := (by omega)
          have q178 : 0 < (l0.length : Int) := of_decide_eq_true (by first | (with_reducible assumption) | assumption)
          obtain ⟨ad178, e178, hx178_0, hx178_1⟩ := at_T34 HR0.out 0 p178 q178
          obtain rfl : ad177 = ad178 := (by injection e178)
          have qi178 : (0 < l0.length) = True := eq_true (by omega)
          (try rw [show ((0 : Int)).toNat = 0 from rfl] at hx178_0)
          (try rw [show 0 * 2 = 0 from rfl] at hx178_0)
          (try rw [Addr.add_zero'] at hx178_0)
          (try rw [show ((0 : Int)).toNat = 0 from rfl] at hx178_1)
          (try rw [show 0 * 2 = 0 from rfl] at hx178_1)
          (try rw [Addr.add_zero'] at hx178_1)
          replace hx178_0 := (HB.out.cell (World.block_lt_of_cell? w _ hx178_0)).trans hx178_0
          replace hx178_1 := (HB.out.cell (World.block_lt_of_cell? w _ hx178_1)).trans hx178_1
          replace p178 := eq_true p178
          replace q178 := eq_true q178
          go_wp2
          go_loopg [5, 6, 7] kj1 (fun kq v5 v6 v7 w' => ∃ (x5_2 : Int) (x6_2 : Int) (x7_2 : Int), v5 = .int .i64 x5_2 ∧ v6 = .int .i64 x6_2 ∧ v7 = .int .i64 x7_2 ∧ Aside0 (spec_MelodyRange.l0 kq l0 x5_2 x6_2 x7_2 = some (r1, r2, r3)) ∧ Aside0 (kq ≤ kj1) ∧ Aside0 (Below w.heap.size w w'))
          case atStart => exact ⟨((rd_T34 l0 0).f0), ((rd_T34 l0 0).f0), (0), (by first | rfl | (simp; done) | (simp [*]; done)), (by first | rfl | (simp; done) | (simp [*]; done)), (by first | rfl | (simp; done) | (simp [*]; done)), H', ⟨Nat.le_refl _⟩, ⟨by repeat (first | (with_reducible first | exact HB.out | apply below_alloc | apply pw_below_drewN | apply below_drew1) | exact HB.out)⟩⟩
          case round =>
            clear H'
            try clear c1
            try clear p1
            try clear q1
            try clear hx1
            try clear qi1
            try clear p2
            try clear c4
            try clear c7
            try clear c8
            try clear c8b0
            try clear c8b1
            try clear hx177_0
            try clear hx177_1
            try clear hx178_0
            try clear hx178_1
            try clear p177
            try clear p178
            try clear p2
            try clear q177
            try clear q178
            obtain ⟨x5_2, x6_2, x7_2, rfl, rfl, rfl, HA, HK2, HB⟩ := hrel
            cases gk with
            | zero => exact absurd HA.out (by simp [spec_MelodyRange.l0])
            | succ k2 =>
              have H := HA.out
              clear HA
              simp only [spec_MelodyRange.l0] at H
              by_cases c9 : x7_2 < (l0.length : Int)
              · rw [if_pos c9] at H
                have c9b0 : decide (x7_2 < (l0.length : Int)) = true := decide_eq_true c9
                clear c9
                by_cases c10 : 0 ≤ x7_2
                · rw [if_pos c10] at H
                  have c10b0 : decide (0 ≤ x7_2) = true := decide_eq_true c10
                  clear c10
                  obtain ⟨ji11, hji11⟩ : ∃ j_ : Int, (mn x5_2 ((rd_T34 l0 x7_2).f0)) = j_ := ⟨_, rfl⟩
                  replace H : (spec_MelodyRange.l0 k2 l0 ji11 (mx x6_2 ((rd_T34 l0 x7_2).f0)) (wrap64 (x7_2 + 1))) = some (r1, r2, r3) := by first | (rw [hji11] at H; exact H) | (simp only [hji11] at H ⊢; exact H)
                  have hji11_ : (if ((rd_T34 l0 x7_2).f0) < x5_2 then ((rd_T34 l0 x7_2).f0) else x5_2) = ji11 := hji11
                  obtain ⟨ji12, hji12⟩ : ∃ j_ : Int, (mx x6_2 ((rd_T34 l0 x7_2).f0)) = j_ := ⟨_, rfl⟩
                  replace H : (spec_MelodyRange.l0 k2 l0 ji11 ji12 (wrap64 (x7_2 + 1))) = some (r1, r2, r3) := by first | (rw [hji12] at H; exact H) | (simp only [hji12] at H ⊢; exact H)
                  have hji12_ : (if x6_2 < ((rd_T34 l0 x7_2).f0) then ((rd_T34 l0 x7_2).f0) else x6_2) = ji12 := hji12
                  have H' := Aside0.mk H
                  clear H
                  have p179 : 0 ≤ (x7_2 : Int) := of_decide_eq_true (by first | (with_reducible assumption) | assumption)
                  have q179 : x7_2 < (l0.length : Int) := of_decide_eq_true (by first | (with_reducible assumption) | assumption)
                  obtain ⟨ad179, e179, hx179_0, hx179_1⟩ := at_T34 HR0.out x7_2 p179 q179
                  obtain rfl : ad177 = ad179 := (by injection e179)
                  replace hx179_0 := (HB.out.cell (World.block_lt_of_cell? w _ hx179_0)).trans hx179_0
                  replace hx179_1 := (HB.out.cell (World.block_lt_of_cell? w _ hx179_1)).trans hx179_1
                  replace p179 := eq_true p179
                  replace q179 := eq_true q179
                  have p180 : 0 ≤ (x7_2 : Int) := of_decide_eq_true (by first | (with_reducible assumption) | assumption)
                  have q180 : x7_2 < (l0.length : Int) := of_decide_eq_true (by first | (with_reducible assumption) | assumption)
                  obtain ⟨ad180, e180, hx180_0, hx180_1⟩ := at_T34 HR0.out x7_2 p180 q180
                  obtain rfl : ad177 = ad180 := (by injection e180)
                  replace hx180_0 := (HB.out.cell (World.block_lt_of_cell? w _ hx180_0)).trans hx180_0
                  replace hx180_1 := (HB.out.cell (World.block_lt_of_cell? w _ hx180_1)).trans hx180_1
                  replace p180 := eq_true p180
                  replace q180 := eq_true q180
                  go_wp2
                  go_roundg k2
                  case measure => have := HJ1.out; have := HK2.out; omega
                  case rel => exact ⟨(ji11), (ji12), (wrap64 (x7_2 + 1)), (by first | rfl | (simp; done) | (simp only [← hji11] <;> (first | rfl | simp)) | (simp [*]; done)), (by first | rfl | (simp; done) | (simp only [← hji12] <;> (first | rfl | simp)) | (simp [*]; done)), (by first | rfl | (simp; done) | (simp [*]; done)), H', ⟨by have := HJ1.out; have := HK2.out; omega⟩, ⟨by repeat (first | (with_reducible first | exact HB.out | apply below_alloc | apply pw_below_drewN | apply below_drew1) | exact HB.out)⟩⟩
                · rw [if_neg c10] at H
                  exact absurd H (by simp)
              · rw [if_neg c9] at H
                have c9b0 : decide (x7_2 < (l0.length : Int)) = false := decide_eq_false c9
                clear c9
                simp only [Option.some.injEq, Prod.mk.injEq] at H
                obtain ⟨rfl, rfl, rfl⟩ := H
                go_wp2
                go_ret3
                exact ⟨by first | rfl | (simp [errW_none, errW_some] <;> rfl) | (simp [*, errW_none, errW_some] <;> rfl), by repeat (first | (with_reducible first | exact HB.out | apply below_alloc | apply pw_below_drewN | apply below_drew1) | exact HB.out)⟩
        · rw [if_neg c8] at H
          exact absurd H (by simp)

/-! ### impl_MelodyRange: function 16 -/
/-- The least and the greatest step, out of what is known already. -/
def rngFrom : List S34 → Int → Int → Int × Int
  | [], a, b => (a, b)
  | t :: ts, a, b => rngFrom ts (mn a t.f0) (mx b t.f0)
def impl_MelodyRange.g (l0 : List S34) : Int × Int × Bool :=
  match l0 with
  | [] => (0, 0, false)
  | t :: ts => ((rngFrom (t :: ts) t.f0 t.f0).1, (rngFrom (t :: ts) t.f0 t.f0).2, true)
def impl_MelodyRange.f (k : Nat) (l0 : List S34) : Option (Int × Int × Bool) :=
  (impl_MelodyValid.f k l0).bind fun t => if t = true then some (impl_MelodyRange.g l0) else some (0, 0, false)
theorem impl_MelodyRange.mono : ∀ a0 k, LeO (impl_MelodyRange.f k a0) (impl_MelodyRange.f (k + 1) a0) := fun a0 k => LeO.bind (impl_MelodyValid.mono a0 k) (fun _ => LeO.refl _)
theorem impl_MelodyRange.start {l0 : List S34} {r1 r2 : Int} {r3 : Bool} (hl : 0 < l0.length) (h : impl_MelodyRange.g l0 = (r1, r2, r3)) : r3 = true ∧ rngFrom l0 (rd_T34 l0 0).f0 (rd_T34 l0 0).f0 = (r1, r2) := by
  cases l0 with
  | nil => simp at hl
  | cons t ts =>
    simp only [impl_MelodyRange.g, Prod.mk.injEq] at h
    obtain ⟨h1, h2, h3⟩ := h
    exact ⟨h3.symm, Prod.ext h1 h2⟩
set_option maxHeartbeats 2000000 in
theorem impl_MelodyRange.calls (k : Nat) (A0 : Option Addr) (c0 : Nat) (l0 : List S34) (r1 r2 : Int) (r3 : Bool) (w : World) (hr0 : Kd.C k34 w A0 l0.length l0) (hc0 : l0.length ≤ c0) (h : impl_MelodyRange.f k l0 = some (r1, r2, r3)) :
    Calls Try.prog 16 #[.slice A0 l0.length c0] w fun e w' => e = .returned (.tuple #[.int .i64 r1, .int .i64 r2, .bool r3]) ∧ Below w.heap.size w w' := by
  have hu34 := Try.underlying34
  have HB : Aside0 (Below w.heap.size w w) := ⟨Below.refl _ _⟩
  have HR0 := Aside0.mk hr0
  have HC0 := Aside0.mk hc0
  clear hr0 hc0
  unfold impl_MelodyRange.f at h
  cases ht : impl_MelodyValid.f k l0 with
  | none => rw [ht] at h; exact absurd h (by simp)
  | some t =>
    rw [ht] at h
    replace h : (if t = true then some (impl_MelodyRange.g l0) else some (0, 0, false)) = some (r1, r2, r3) := h
    have A2 := Aside0.mk ht
    clear ht
    cases t with
    | false =>
      rw [if_neg (by simp)] at h
      simp only [Option.some.injEq, Prod.mk.injEq] at h
      obtain ⟨rfl, rfl, rfl⟩ := h
      go_enter Try.func16, Try.ntmps16
      go_wp2_with (first | ((with_reducible refine gate_callee (f := 13) rfl ?_); refine goesL_ (some 9) rfl rfl Try.func13 (by kernel_rfl) rfl #[.slice A0 l0.length c0] rfl (by (try simp only [List.map_toArray, List.map_cons, List.map_nil]); first | done | rfl) ?_; (with_reducible refine (impl_MelodyValid.calls k A0 c0 l0 false _ HR0.out HC0.out A2.out).mono ?_); rintro e w4 ⟨rfl, hb⟩; refine ⟨_, rfl, ?_⟩; have n0_ := Aside0.mk (below_step HB.out hb); clear HB; have HB := n0_; clear n0_; (try clear hb)))
      exact bodyPost_ret (v := .tuple #[.int .i64 0, .int .i64 0, .bool false]) (by simp [results, Try.results16, go_sem]) rfl ⟨rfl, HB.out⟩
    | true =>
      rw [if_pos rfl] at h
      by_cases hz : l0.length = 0
      · have hg : impl_MelodyRange.g l0 = (0, 0, false) := by
          match l0, hz with
          | [], _ => rfl
        rw [hg] at h
        simp only [Option.some.injEq, Prod.mk.injEq] at h
        obtain ⟨rfl, rfl, rfl⟩ := h
        clear hg
        have hz2 : ((l0.length : Int) == 0) = true := by rw [hz]; rfl
        clear hz
        go_enter Try.func16, Try.ntmps16
        go_wp2_with (first | ((with_reducible refine gate_callee (f := 13) rfl ?_); refine goesL_ (some 9) rfl rfl Try.func13 (by kernel_rfl) rfl #[.slice _ l0.length c0] rfl (by (try simp only [List.map_toArray, List.map_cons, List.map_nil]); first | done | rfl) ?_; (with_reducible refine (impl_MelodyValid.calls k _ c0 l0 true _ HR0.out HC0.out A2.out).mono ?_); rintro e w4 ⟨rfl, hb⟩; refine ⟨_, rfl, ?_⟩; have n0_ := Aside0.mk (below_step HB.out hb); clear HB; have HB := n0_; clear n0_; (try clear hb)))
        exact bodyPost_ret (v := .tuple #[.int .i64 0, .int .i64 0, .bool false]) (by simp [results, Try.results16, go_sem]) rfl ⟨rfl, HB.out⟩
      · have hz2 : ((l0.length : Int) == 0) = false := by simpa using hz
        have hE : Aside0 (impl_MelodyRange.g l0 = (r1, r2, r3)) := ⟨Option.some.inj h⟩
        have hL : Aside0 (0 < l0.length) := ⟨by omega⟩
        clear h hz
        obtain ⟨rfl, hS⟩ := impl_MelodyRange.start hL.out hE.out
        replace hS := Aside0.mk hS
        clear hE
        have p0 : (0 : Int) ≤ 0 := by omega
        have q0 : (0 : Int) < (l0.length : Int) := by have := hL.out; omega
        obtain ⟨ad, e0, hx0, _⟩ := at_T34 HR0.out 0 p0 q0
        cases e0
        simp only [Int.toNat_zero, Nat.zero_mul] at hx0
        rw [show ad.add 0 = ad by cases ad; simp [Addr.add]] at hx0
        have hx := Aside0.mk hx0
        clear hx0 p0
        replace q0 := eq_true q0
        have q1 := eq_true hL.out
        have q2 : (l0.length = 0) = False := eq_false (by have := hL.out; omega)
        go_enter Try.func16, Try.ntmps16
        go_wp2_with (first | ((with_reducible refine gate_callee (f := 13) rfl ?_); refine goesL_ (some 9) rfl rfl Try.func13 (by kernel_rfl) rfl #[.slice _ l0.length c0] rfl (by (try simp only [List.map_toArray, List.map_cons, List.map_nil]); first | done | rfl) ?_; (with_reducible refine (impl_MelodyValid.calls k _ c0 l0 true _ HR0.out HC0.out A2.out).mono ?_); rintro e w4 ⟨rfl, hb⟩; refine ⟨_, rfl, ?_⟩; have n0_ := Aside0.mk (below_step HB.out hb); clear HB; have HB := n0_; clear n0_; (try clear hb)))
        have hx0 := pw_cell_below HB.out hx.out
        go_quiet (fail)
        clear hx0 hx
        have hd := Aside0.mk (pw_below_drewN HB.out nq)
        clear HB
        have HB := hd
        clear hd
        go_wp2_with (first | ((with_reducible refine gate_callee (f := 38) rfl ?_); refine goesL_ (some 25) rfl rfl Try.func38 (by kernel_rfl) rfl #[.slice _ l0.length c0] rfl (by (try simp only [List.map_toArray, List.map_cons, List.map_nil]); first | done | rfl) ?_; (with_reducible refine (impl_linked.calls _ c0 l0 _ (Kd.C_below HR0.out HB.out) HC0.out).mono ?_); rintro e w5 ⟨p, rfl, hch, hb⟩; refine ⟨_, rfl, ?_⟩; have n0_ := Aside0.mk (below_step HB.out hb); have hCh := Aside0.mk hch; clear hch; clear HB; have HB := n0_; clear n0_; (try clear hb)))
        go_loopg [5, 6, 7] l0.length (fun kq v5 v6 v7 w' => ∃ (a b : Int) (p : Option Addr) (ts : List S34), v5 = .int .i64 a ∧ v6 = .int .i64 b ∧ v7 = .pointer p ∧ Aside0 (ts.length = kq) ∧ Aside0 (rngFrom ts a b = (r1, r2)) ∧ Aside0 (Chain w' p ts) ∧ Aside0 (Below w.heap.size w w'))
        case atStart => exact ⟨_, _, p, l0, rfl, rfl, rfl, ⟨rfl⟩, hS, hCh, HB⟩
        case round =>
          clear HB hS hCh
          obtain ⟨a, b, p, ts, rfl, rfl, rfl, HK, HS, HC, HB⟩ := hrel
          cases ts with
          | nil =>
            obtain rfl : p = none := HC.out
            have e1 := HS.out
            simp only [rngFrom, Prod.mk.injEq] at e1
            obtain ⟨rfl, rfl⟩ := e1
            go_wp2
            exact bodyPost_ret (v := .tuple #[.int .i64 a, .int .i64 b, .bool true]) (by simp [results, Try.results16, go_sem]) rfl ⟨rfl, HB.out⟩
          | cons t ts =>
            obtain ⟨bk, q, rfl, h0, h1, h2, hk, h3⟩ := HC.out.open
            clear hk
            have H3 := Aside0.mk h3
            clear h3 HC
            have HS2 : Aside0 (rngFrom ts (if t.f0 < a then t.f0 else a) (if b < t.f0 then t.f0 else b) = (r1, r2)) := HS
            clear HS
            obtain ⟨a2, ha2⟩ : ∃ a2, (if t.f0 < a then t.f0 else a) = a2 := ⟨_, rfl⟩
            obtain ⟨b2, hb2⟩ : ∃ b2, (if b < t.f0 then t.f0 else b) = b2 := ⟨_, rfl⟩
            rw [ha2, hb2] at HS2
            obtain ⟨g, rfl⟩ : ∃ g, gk = g + 1 := ⟨ts.length, HK.out.symm⟩
            go_wp2
            go_roundg g
            case measure => omega
            case rel => exact ⟨a2, b2, q, ts, rfl, rfl, rfl, ⟨by have := HK.out; simpa using this⟩, HS2, H3, HB⟩

end Go.Proofs.Ytiddkhhcophbfaa.XT
