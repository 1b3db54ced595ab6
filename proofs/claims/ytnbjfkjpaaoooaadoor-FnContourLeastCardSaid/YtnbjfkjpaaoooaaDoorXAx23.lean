-- Written by this session's own program (wip/tools/xprint.py) out of the translation. Not trusted: Lean checks it.
import Derived.Test.YtnbjfkjpaaoooaaDoorXAx0
import Derived.Test.YtnbjfkjpaaoooaaDoorXAx7
import Derived.Test.YtnbjfkjpaaoooaaDoorXAx8
import Derived.Test.YtnbjfkjpaaoooaaDoorXAx14
import Derived.Test.YtnbjfkjpaaoooaaDoorXAx16
import Derived.Test.YtnbjfkjpaaoooaaDoorXAx17
namespace Go.Proofs.YtnbjfkjpaaoooaaDoor.XA
open Go.RowKit Go.Proofs.YtnbjfkjpaaoooaaDoorW.PrintWords Go.Proofs.YtnbjfkjpaaoooaaDoorW.PrintLast Go.Proofs.YtnbjfkjpaaoooaaDoorW.PrintMore
attribute [local go_sem] max2_int min2_int max_two min_two max_three min_three max_four min_four   -- for this text's walks alone
set_option linter.unusedVariables false
set_option linter.unusedSimpArgs false

/-! ### laws_FnContourLeast: function 14 -/
mutual
def laws_FnContourLeast.j0 : Nat → List Int → List Int → Bool → Option (Bool)
  | 0, _, _, _ => none
  | k + 1, x0, x1, x21 => if x21 = true then (some true) else ((spec_DrawContourLeast.f k x0).bind fun t319 => ((impl_ContourLeast.f k t319).bind fun bt320 => ((spec_ContourLeast.f k t319).bind fun bt324 => (if (bt320.2 != bt324.2) = true then (laws_FnContourLeast.j1 k x1 t319 bt320.1 bt320.2 bt324.1 bt324.2 true) else ((laws_sameInts.f k bt320.1 bt324.1).bind fun t328 => (if t328 = true then (laws_FnContourLeast.j1 k x1 t319 bt320.1 bt320.2 bt324.1 bt324.2 (!bt320.2)) else (laws_FnContourLeast.j1 k x1 t319 bt320.1 bt320.2 bt324.1 bt324.2 true)))))))
def laws_FnContourLeast.j1 : Nat → List Int → ByteArray → List Int → Bool → List Int → Bool → Bool → Option (Bool)
  | 0, _, _, _, _, _, _, _ => none
  | k + 1, x1, x5, x6, x7, x8, x9, x46 => if x46 = true then (if (x7 == x9) = true then ((laws_sameInts.f k x6 x8).bind fun t329 => (some t329)) else (some false)) else (if 0 < (x6.length : Int) then (laws_FnContourLeast.l0 k x1 x5 x6 (rd x6 0) (rd x6 0) 0) else (none))
def laws_FnContourLeast.l0 : Nat → List Int → ByteArray → List Int → Int → Int → Int → Option (Bool)
  | 0, _, _, _, _, _, _ => none
  | k + 1, x1, x5, x6, x10, x11, x12 => if x12 < (x6.length : Int) then (if 0 ≤ x12 then (laws_FnContourLeast.l0 k x1 x5 x6 (mn x10 (rd x6 x12)) (mx x11 (rd x6 x12)) (wrap64 (x12 + 1))) else (none)) else ((laws_contourOf.f k x6).bind fun t334 => (if t334.toList = x5.toList then (if x10 = 0 then (if (x5.size : Int) > 8 then (some true) else ((impl_ContourMany.f k x5 ((x1.length : Int) % 10)).bind fun t335 => (some ((decide (t335 > 0)) == (decide (((x1.length : Int) % 10) ≥ x11)))))) else (some false)) else (some false)))
end
def laws_FnContourLeast.f (k : Nat) (l0 : List Int) (l1 : List Int) : Option (Bool) := if (l0.length : Int) > 1048576 then (laws_FnContourLeast.j0 k l0 l1 true) else (laws_FnContourLeast.j0 k l0 l1 (decide ((l1.length : Int) > 1048576)))
theorem laws_FnContourLeast.mono_l : ∀ k, (∀ y0 y1 y2, LeO (laws_FnContourLeast.j0 k y0 y1 y2) (laws_FnContourLeast.j0 (k + 1) y0 y1 y2)) ∧ (∀ y0 y1 y2 y3 y4 y5 y6, LeO (laws_FnContourLeast.j1 k y0 y1 y2 y3 y4 y5 y6) (laws_FnContourLeast.j1 (k + 1) y0 y1 y2 y3 y4 y5 y6)) ∧ (∀ y0 y1 y2 y3 y4 y5, LeO (laws_FnContourLeast.l0 k y0 y1 y2 y3 y4 y5) (laws_FnContourLeast.l0 (k + 1) y0 y1 y2 y3 y4 y5))
  | 0 => ⟨fun _ _ _ r h => by simp [laws_FnContourLeast.j0] at h, fun _ _ _ _ _ _ _ r h => by simp [laws_FnContourLeast.j1] at h, fun _ _ _ _ _ _ r h => by simp [laws_FnContourLeast.l0] at h⟩
  | k + 1 => by
    obtain ⟨ih0, ih1, ih2⟩ := laws_FnContourLeast.mono_l k
    refine ⟨?_, ?_, ?_⟩
    · intro y0 y1 y2
      unfold laws_FnContourLeast.j0
      repeat' first
      | (with_reducible exact ih0 _ _ _)
      | (with_reducible exact ih1 _ _ _ _ _ _ _)
      | (with_reducible exact ih2 _ _ _ _ _ _)
      | (with_reducible exact impl_ContourLeast.mono _ _)
      | (with_reducible exact impl_ContourMany.mono _ _ _)
      | (with_reducible exact laws_contourOf.mono _ _)
      | (with_reducible exact laws_sameInts.mono _ _ _)
      | (with_reducible exact spec_ContourLeast.mono _ _)
      | (with_reducible exact spec_DrawContourLeast.mono _ _)
      | (with_reducible exact LeO.refl _)
      | (with_reducible exact LeO.none _)
      | (with_reducible refine LeO.ite ?_ ?_)
      | (with_reducible refine LeO.bind ?_ (fun _ => ?_))
      | exact ih0 _ _ _
      | exact ih1 _ _ _ _ _ _ _
      | exact ih2 _ _ _ _ _ _
      | exact impl_ContourLeast.mono _ _
      | exact impl_ContourMany.mono _ _ _
      | exact laws_contourOf.mono _ _
      | exact laws_sameInts.mono _ _ _
      | exact spec_ContourLeast.mono _ _
      | exact spec_DrawContourLeast.mono _ _
      | exact LeO.none _
      | refine LeO.ite ?_ ?_
      | refine LeO.bind ?_ (fun _ => ?_)
    · intro y0 y1 y2 y3 y4 y5 y6
      unfold laws_FnContourLeast.j1
      repeat' first
      | (with_reducible exact ih0 _ _ _)
      | (with_reducible exact ih1 _ _ _ _ _ _ _)
      | (with_reducible exact ih2 _ _ _ _ _ _)
      | (with_reducible exact impl_ContourLeast.mono _ _)
      | (with_reducible exact impl_ContourMany.mono _ _ _)
      | (with_reducible exact laws_contourOf.mono _ _)
      | (with_reducible exact laws_sameInts.mono _ _ _)
      | (with_reducible exact spec_ContourLeast.mono _ _)
      | (with_reducible exact spec_DrawContourLeast.mono _ _)
      | (with_reducible exact LeO.refl _)
      | (with_reducible exact LeO.none _)
      | (with_reducible refine LeO.ite ?_ ?_)
      | (with_reducible refine LeO.bind ?_ (fun _ => ?_))
      | exact ih0 _ _ _
      | exact ih1 _ _ _ _ _ _ _
      | exact ih2 _ _ _ _ _ _
      | exact impl_ContourLeast.mono _ _
      | exact impl_ContourMany.mono _ _ _
      | exact laws_contourOf.mono _ _
      | exact laws_sameInts.mono _ _ _
      | exact spec_ContourLeast.mono _ _
      | exact spec_DrawContourLeast.mono _ _
      | exact LeO.none _
      | refine LeO.ite ?_ ?_
      | refine LeO.bind ?_ (fun _ => ?_)
    · intro y0 y1 y2 y3 y4 y5
      unfold laws_FnContourLeast.l0
      repeat' first
      | (with_reducible exact ih0 _ _ _)
      | (with_reducible exact ih1 _ _ _ _ _ _ _)
      | (with_reducible exact ih2 _ _ _ _ _ _)
      | (with_reducible exact impl_ContourLeast.mono _ _)
      | (with_reducible exact impl_ContourMany.mono _ _ _)
      | (with_reducible exact laws_contourOf.mono _ _)
      | (with_reducible exact laws_sameInts.mono _ _ _)
      | (with_reducible exact spec_ContourLeast.mono _ _)
      | (with_reducible exact spec_DrawContourLeast.mono _ _)
      | (with_reducible exact LeO.refl _)
      | (with_reducible exact LeO.none _)
      | (with_reducible refine LeO.ite ?_ ?_)
      | (with_reducible refine LeO.bind ?_ (fun _ => ?_))
      | exact ih0 _ _ _
      | exact ih1 _ _ _ _ _ _ _
      | exact ih2 _ _ _ _ _ _
      | exact impl_ContourLeast.mono _ _
      | exact impl_ContourMany.mono _ _ _
      | exact laws_contourOf.mono _ _
      | exact laws_sameInts.mono _ _ _
      | exact spec_ContourLeast.mono _ _
      | exact spec_DrawContourLeast.mono _ _
      | exact LeO.none _
      | refine LeO.ite ?_ ?_
      | refine LeO.bind ?_ (fun _ => ?_)
theorem laws_FnContourLeast.mono : ∀ a0 a1 k, LeO (laws_FnContourLeast.f k a0 a1) (laws_FnContourLeast.f (k + 1) a0 a1) := by
  intro a0 a1 k
  obtain ⟨ih0, ih1, ih2⟩ := laws_FnContourLeast.mono_l k
  unfold laws_FnContourLeast.f
  repeat' first
      | (with_reducible exact ih0 _ _ _)
      | (with_reducible exact ih1 _ _ _ _ _ _ _)
      | (with_reducible exact ih2 _ _ _ _ _ _)
      | (with_reducible exact impl_ContourLeast.mono _ _)
      | (with_reducible exact impl_ContourMany.mono _ _ _)
      | (with_reducible exact laws_contourOf.mono _ _)
      | (with_reducible exact laws_sameInts.mono _ _ _)
      | (with_reducible exact spec_ContourLeast.mono _ _)
      | (with_reducible exact spec_DrawContourLeast.mono _ _)
      | (with_reducible exact LeO.refl _)
      | (with_reducible exact LeO.none _)
      | (with_reducible refine LeO.ite ?_ ?_)
      | (with_reducible refine LeO.bind ?_ (fun _ => ?_))
      | exact ih0 _ _ _
      | exact ih1 _ _ _ _ _ _ _
      | exact ih2 _ _ _ _ _ _
      | exact impl_ContourLeast.mono _ _
      | exact impl_ContourMany.mono _ _ _
      | exact laws_contourOf.mono _ _
      | exact laws_sameInts.mono _ _ _
      | exact spec_ContourLeast.mono _ _
      | exact spec_DrawContourLeast.mono _ _
      | exact LeO.none _
      | refine LeO.ite ?_ ?_
      | refine LeO.bind ?_ (fun _ => ?_)
set_option maxHeartbeats 8000000 in
set_option maxRecDepth 100000 in
theorem laws_FnContourLeast.calls (k : Nat) (A0 : Option Addr) (c0 : Nat) (l0 : List Int) (A1 : Option Addr) (c1 : Nat) (l1 : List Int) (r : Bool) (w : World) (hr0 : Kd.C (Kd.int .u8) w A0 l0.length l0) (hc0 : l0.length ≤ c0) (hr1 : Kd.C (Kd.int .u8) w A1 l1.length l1) (hc1 : l1.length ≤ c1) (h : laws_FnContourLeast.f k l0 l1 = some r) :
    Calls Tryd.prog 14 #[.slice A0 l0.length c0, .slice A1 l1.length c1] w fun e w' => e = .returned (.bool r) ∧ Below w.heap.size w w' := by
  have HR0 := Aside0.mk hr0
  have HC0 := Aside0.mk hc0
  clear hr0 hc0
  have HR1 := Aside0.mk hr1
  have HC1 := Aside0.mk hc1
  clear hr1 hc1
  have HB := Aside0.mk (Below.refl w.heap.size w)
  have H : (if (l0.length : Int) > 1048576 then (laws_FnContourLeast.j0 k l0 l1 true) else (laws_FnContourLeast.j0 k l0 l1 (decide ((l1.length : Int) > 1048576)))) = some r := h
  clear h
  have HC3 := Aside0.mk H
  clear H
  go_enter Tryd.func14, Tryd.ntmps14
  go_upto_region 1 with (fail)
  go_cut [21] (fun v21 wc => ∃ (kq : Nat) (x21_2 : Bool), v21 = .bool x21_2 ∧ Aside0 (laws_FnContourLeast.j0 kq l0 l1 x21_2 = some r) ∧ Aside0 (kq ≤ k) ∧ Aside0 (Below w.heap.size w wc))
  case first =>
    have H := HC3.out
    clear HC3
    by_cases c4 : (l0.length : Int) > 1048576
    · rw [if_pos c4] at H
      have c4b0 : decide (1048576 < (l0.length : Int)) = true := decide_eq_true c4
      have c4b1 : decide (1048576 < l0.length) = true := decide_eq_true (by omega)
      clear c4
      (first | rw [c4b0] | (simp only [i64_w, i32_w]; rw [c4b0]) | skip)
      have H' := Aside0.mk H
      clear H
      go_wp2
      go_meet
      case rel => exact ⟨_, (true), (by first | rfl | (simp; done) | (simp [*]; done)), H', ⟨by first | omega | exact Nat.le_refl _⟩, ⟨by repeat (first | (with_reducible first | exact HB.out | apply below_alloc | apply pw_below_drewN | apply below_drew1) | exact HB.out)⟩⟩
    · rw [if_neg c4] at H
      have c4b0 : decide (1048576 < (l0.length : Int)) = false := decide_eq_false c4
      have c4b1 : decide (1048576 < l0.length) = false := decide_eq_false (by omega)
      clear c4
      (first | rw [c4b0] | (simp only [i64_w, i32_w]; rw [c4b0]) | skip)
      have H' := Aside0.mk H
      clear H
      go_wp2
      go_meet
      case rel => exact ⟨_, (decide ((l1.length : Int) > 1048576)), (by first | rfl | (simp; done) | (simp [*]; done)), H', ⟨by first | omega | exact Nat.le_refl _⟩, ⟨by repeat (first | (with_reducible first | exact HB.out | apply below_alloc | apply pw_below_drewN | apply below_drew1) | exact HB.out)⟩⟩
  case rest =>
    clear HC3
    try clear c1
    try clear p2
    try clear c4
    try clear c4b0
    try clear c4b1
    obtain ⟨kq, x21_2, rfl, HA, HJ2, HB⟩ := hcut
    cases kq with
    | zero => exact absurd HA.out (by simp [laws_FnContourLeast.j0])
    | succ kj2 =>
      have H := HA.out
      clear HA
      simp only [laws_FnContourLeast.j0] at H
      by_cases c5 : x21_2 = true
      · subst c5
        have H1 : (some true) = some r := by rw [if_pos rfl] at H; exact H
        clear H
        have H := H1
        clear H1
        obtain rfl := Option.some.inj H
        go_wp2
        go_ret
        exact ⟨by first | rfl | (simp [errW_none, errW_some] <;> rfl) | (simp [*, errW_none, errW_some] <;> rfl), by repeat (first | (with_reducible first | exact HB.out | apply below_alloc | apply pw_below_drewN | apply below_drew1) | exact HB.out)⟩
      · replace c5 := Bool.eq_false_iff.mpr c5
        subst c5
        have H1 : ((spec_DrawContourLeast.f kj2 l0).bind fun t319 => ((impl_ContourLeast.f kj2 t319).bind fun bt320 => ((spec_ContourLeast.f kj2 t319).bind fun bt324 => (if (bt320.2 != bt324.2) = true then (laws_FnContourLeast.j1 kj2 l1 t319 bt320.1 bt320.2 bt324.1 bt324.2 true) else ((laws_sameInts.f kj2 bt320.1 bt324.1).bind fun t328 => (if t328 = true then (laws_FnContourLeast.j1 kj2 l1 t319 bt320.1 bt320.2 bt324.1 bt324.2 (!bt320.2)) else (laws_FnContourLeast.j1 kj2 l1 t319 bt320.1 bt320.2 bt324.1 bt324.2 true))))))) = some r := by rw [if_neg (show ¬ (false = true) by decide)] at H; exact H
        clear H
        have H := H1
        clear H1
        replace H := Option.bind_eq_some_iff.mp H
        obtain ⟨t319, A60, H⟩ := H
        replace H : ((impl_ContourLeast.f kj2 t319).bind fun bt320 => ((spec_ContourLeast.f kj2 t319).bind fun bt324 => (if (bt320.2 != bt324.2) = true then (laws_FnContourLeast.j1 kj2 l1 t319 bt320.1 bt320.2 bt324.1 bt324.2 true) else ((laws_sameInts.f kj2 bt320.1 bt324.1).bind fun t328 => (if t328 = true then (laws_FnContourLeast.j1 kj2 l1 t319 bt320.1 bt320.2 bt324.1 bt324.2 (!bt320.2)) else (laws_FnContourLeast.j1 kj2 l1 t319 bt320.1 bt320.2 bt324.1 bt324.2 true)))))) = some r := H
        have A6 := Aside0.mk A60
        clear A60
        replace H := Option.bind_eq_some_iff.mp H
        obtain ⟨⟨t320, t321⟩, A70, H⟩ := H
        replace H : ((spec_ContourLeast.f kj2 t319).bind fun bt324 => (if (t321 != bt324.2) = true then (laws_FnContourLeast.j1 kj2 l1 t319 t320 t321 bt324.1 bt324.2 true) else ((laws_sameInts.f kj2 t320 bt324.1).bind fun t328 => (if t328 = true then (laws_FnContourLeast.j1 kj2 l1 t319 t320 t321 bt324.1 bt324.2 (!t321)) else (laws_FnContourLeast.j1 kj2 l1 t319 t320 t321 bt324.1 bt324.2 true))))) = some r := H
        have A7 := Aside0.mk A70
        clear A70
        replace H := Option.bind_eq_some_iff.mp H
        obtain ⟨⟨t324, t325⟩, A80, H⟩ := H
        replace H : (if (t321 != t325) = true then (laws_FnContourLeast.j1 kj2 l1 t319 t320 t321 t324 t325 true) else ((laws_sameInts.f kj2 t320 t324).bind fun t328 => (if t328 = true then (laws_FnContourLeast.j1 kj2 l1 t319 t320 t321 t324 t325 (!t321)) else (laws_FnContourLeast.j1 kj2 l1 t319 t320 t321 t324 t325 true)))) = some r := H
        have A8 := Aside0.mk A80
        clear A80
        have HC9 := Aside0.mk H
        clear H
        go_upto_region 6 with (first | ((with_reducible refine gate_callee (f := 32) rfl ?_); refine goesL_ (some 23) rfl rfl Tryd.func32 (by kernel_rfl) rfl #[.slice A0 l0.length c0] rfl (by (try simp only [List.map_toArray, List.map_cons, List.map_nil]); first | done | rfl | (simp only [List.length_drop, List.length_take]; rfl)) ?_; (with_reducible refine (spec_DrawContourLeast.calls kj2 _ _ l0 t319 _ ?side1 ?side2 A6.out).mono ?_); (case side1 => repeat (first | exact (Kd.C_below HR0.out HB.out) | (with_reducible refine Kd.C_alloc ?_ _) | (with_reducible refine Kd.C_drewN ?_ _) | (with_reducible refine Kd.C_drew ?_))); (case side2 => exact HC0.out); rintro e w10 ⟨rfl, hb⟩; refine ⟨_, rfl, ?_⟩; have n0_ := Aside0.mk (below_step (by repeat (first | (with_reducible first | exact HB.out | apply below_alloc | apply pw_below_drewN | apply below_drew1) | exact HB.out)) hb); clear HB; have HB := n0_; clear n0_; (try clear hb); (try clear hb2); (try clear hk); (try clear hi)) | ((with_reducible refine gate_callee (f := 24) rfl ?_); refine goesL_ (some 26) rfl rfl Tryd.func24 (by kernel_rfl) rfl #[.string t319] rfl (by (try simp only [List.map_toArray, List.map_cons, List.map_nil]); first | done | rfl | (simp only [List.length_drop, List.length_take]; rfl)) ?_; (with_reducible refine (impl_ContourLeast.calls kj2 t319 t320 t321 _ A7.out).mono ?_); rintro e w11 ⟨v322, rfl, ho0, hb⟩; refine ⟨_, rfl, ?_⟩; have n0_ := Aside0.mk (Kd.R_lower ho0 (below_size (by repeat (first | (with_reducible first | exact HB.out | apply below_alloc | apply pw_below_drewN | apply below_drew1) | exact HB.out)))); have n1_ := Aside0.mk (below_step (by repeat (first | (with_reducible first | exact HB.out | apply below_alloc | apply pw_below_drewN | apply below_drew1) | exact HB.out)) hb); clear HB; have HO323 := n0_; have HB := n1_; clear n0_ n1_; (try clear hb); (try clear hb2); (try clear hk); (try clear hi); (try clear ho0)) | ((with_reducible refine gate_callee (f := 23) rfl ?_); refine goesL_ (some 31) rfl rfl Tryd.func23 (by kernel_rfl) rfl #[.string t319] rfl (by (try simp only [List.map_toArray, List.map_cons, List.map_nil]); first | done | rfl | (simp only [List.length_drop, List.length_take]; rfl)) ?_; (with_reducible refine (spec_ContourLeast.calls kj2 t319 t324 t325 _ A8.out).mono ?_); rintro e w12 ⟨v326, rfl, ho0, hb⟩; refine ⟨_, rfl, ?_⟩; have n0_ := Aside0.mk (Kd.R_elder' (by (with_reducible repeat (first | apply Kd.R_alloc | apply Kd.R_drewN | apply Kd.R_drew)); exact HO323.out) (Kd.R_base ho0) hb); have n1_ := Aside0.mk (Kd.R_lower (Kd.R_new' ho0 (Kd.R_lt (by (with_reducible repeat (first | apply Kd.R_alloc | apply Kd.R_drewN | apply Kd.R_drew)); exact HO323.out))) (below_size (by repeat (first | (with_reducible first | exact HB.out | apply below_alloc | apply pw_below_drewN | apply below_drew1) | exact HB.out)))); have n2_ := Aside0.mk (below_step (by repeat (first | (with_reducible first | exact HB.out | apply below_alloc | apply pw_below_drewN | apply below_drew1) | exact HB.out)) hb); clear HO323; clear HB; have HO323 := n0_; have HO327 := n1_; have HB := n2_; clear n0_ n1_ n2_; (try clear hb); (try clear hb2); (try clear hk); (try clear hi); (try clear ho0)))
        (try simp only [Act.put, List.setIfInBounds_toArray, List.set_cons_zero, List.set_cons_succ])
        go_cut [46] (fun v46 wc => ∃ (kq : Nat) (x46_8 : Bool), v46 = .bool x46_8 ∧ Aside0 (laws_FnContourLeast.j1 kq l1 t319 t320 t321 t324 t325 x46_8 = some r) ∧ Aside0 (kq ≤ kj2) ∧ Aside0 (Kd.R (Kd.int .i64) 3 wc w.heap.size (fun k_ => some k_ ≠ (v326 : Value).ownBlock) v322 t320) ∧ Aside0 (Kd.R (Kd.int .i64) 3 wc w.heap.size (fun k_ => some k_ ≠ (v322 : Value).ownBlock) v326 t324) ∧ Aside0 (Below w.heap.size w wc))
        case first =>
          have H := HC9.out
          clear HC9
          by_cases c13 : (t321 != t325) = true
          · rw [if_pos c13] at H
            have c13b0 : (t321 != t325) = true := c13
            (try (have c13b1 : decide (t321 = t325) = false := by simpa using c13))
            (try (have c13b2 : (t321 == t325) = false := by simpa using c13))
            (try (have c13b3 : ¬ (t321 = t325) := by simpa using c13))
            clear c13
            (first | rw [c13b0] | (simp only [i64_w, i32_w]; rw [c13b0]) | skip)
            have H' := Aside0.mk H
            clear H
            go_wp2
            go_meet
            case rel => exact ⟨_, (true), (by first | rfl | (simp; done) | (simp [*]; done)), H', ⟨by have := HJ2.out; first | omega | exact Nat.le_refl _⟩, ⟨by (with_reducible repeat (first | apply Kd.R_alloc | apply Kd.R_drewN | apply Kd.R_drew)); exact Kd.R_mono HO323.out (fun _ hk => hk.2)⟩, ⟨by (with_reducible repeat (first | apply Kd.R_alloc | apply Kd.R_drewN | apply Kd.R_drew)); exact Kd.R_mono HO327.out (fun _ hk => hk.2)⟩, ⟨by repeat (first | (with_reducible first | exact HB.out | apply below_alloc | apply pw_below_drewN | apply below_drew1) | exact HB.out)⟩⟩
          · rw [if_neg c13] at H
            have c13b0 : (t321 != t325) = false := by simpa using c13
            (try (have c13b1 : decide (t321 = t325) = true := by simpa using c13))
            (try (have c13b2 : (t321 == t325) = true := by simpa using c13))
            clear c13
            (first | rw [c13b0] | (simp only [i64_w, i32_w]; rw [c13b0]) | skip)
            replace H := Option.bind_eq_some_iff.mp H
            obtain ⟨t328, A140, H⟩ := H
            replace H : (if t328 = true then (laws_FnContourLeast.j1 kj2 l1 t319 t320 t321 t324 t325 (!t321)) else (laws_FnContourLeast.j1 kj2 l1 t319 t320 t321 t324 t325 true)) = some r := H
            have A14 := Aside0.mk A140
            clear A140
            by_cases c15 : t328 = true
            · subst c15
              have H1 : (laws_FnContourLeast.j1 kj2 l1 t319 t320 t321 t324 t325 (!t321)) = some r := by rw [if_pos rfl] at H; exact H
              clear H
              have H := H1
              clear H1
              have H' := Aside0.mk H
              clear H
              obtain ⟨Ao16, co16, eo16⟩ := Kd.R_slice HO323.out
              subst eo16
              obtain ⟨Ao17, co17, eo17⟩ := Kd.R_slice HO327.out
              subst eo17
              go_wp2_with (first | (go_at_call 33; (with_reducible refine (laws_sameInts.calls kj2 _ _ t320 _ _ t324 true _ ?side1 ?side2 ?side3 ?side4 A14.out).mono ?_); (case side1 => repeat (first | exact (Kd.R_reads' HO323.out).2.2 | (with_reducible refine Kd.C_alloc ?_ _) | (with_reducible refine Kd.C_drewN ?_ _) | (with_reducible refine Kd.C_drew ?_))); (case side2 => exact (Kd.R_reads' HO323.out).2.1); (case side3 => repeat (first | exact (Kd.R_reads' HO327.out).2.2 | (with_reducible refine Kd.C_alloc ?_ _) | (with_reducible refine Kd.C_drewN ?_ _) | (with_reducible refine Kd.C_drew ?_))); (case side4 => exact (Kd.R_reads' HO327.out).2.1); rintro e w' ⟨rfl, ⟨nd, rfl⟩⟩))
              go_meet
              case rel => exact ⟨_, (!t321), (by first | rfl | (simp; done) | (simp [*]; done)), H', ⟨by have := HJ2.out; first | omega | exact Nat.le_refl _⟩, ⟨by (with_reducible repeat (first | apply Kd.R_alloc | apply Kd.R_drewN | apply Kd.R_drew)); exact Kd.R_mono HO323.out (fun _ hk => hk.2)⟩, ⟨by (with_reducible repeat (first | apply Kd.R_alloc | apply Kd.R_drewN | apply Kd.R_drew)); exact Kd.R_mono HO327.out (fun _ hk => hk.2)⟩, ⟨by repeat (first | (with_reducible first | exact HB.out | apply below_alloc | apply pw_below_drewN | apply below_drew1) | exact HB.out)⟩⟩
            · replace c15 := Bool.eq_false_iff.mpr c15
              subst c15
              have H1 : (laws_FnContourLeast.j1 kj2 l1 t319 t320 t321 t324 t325 true) = some r := by rw [if_neg (show ¬ (false = true) by decide)] at H; exact H
              clear H
              have H := H1
              clear H1
              have H' := Aside0.mk H
              clear H
              obtain ⟨Ao18, co18, eo18⟩ := Kd.R_slice HO323.out
              subst eo18
              obtain ⟨Ao19, co19, eo19⟩ := Kd.R_slice HO327.out
              subst eo19
              go_wp2_with (first | (go_at_call 33; (with_reducible refine (laws_sameInts.calls kj2 _ _ t320 _ _ t324 false _ ?side1 ?side2 ?side3 ?side4 A14.out).mono ?_); (case side1 => repeat (first | exact (Kd.R_reads' HO323.out).2.2 | (with_reducible refine Kd.C_alloc ?_ _) | (with_reducible refine Kd.C_drewN ?_ _) | (with_reducible refine Kd.C_drew ?_))); (case side2 => exact (Kd.R_reads' HO323.out).2.1); (case side3 => repeat (first | exact (Kd.R_reads' HO327.out).2.2 | (with_reducible refine Kd.C_alloc ?_ _) | (with_reducible refine Kd.C_drewN ?_ _) | (with_reducible refine Kd.C_drew ?_))); (case side4 => exact (Kd.R_reads' HO327.out).2.1); rintro e w' ⟨rfl, ⟨nd, rfl⟩⟩))
              go_meet
              case rel => exact ⟨_, (true), (by first | rfl | (simp; done) | (simp [*]; done)), H', ⟨by have := HJ2.out; first | omega | exact Nat.le_refl _⟩, ⟨by (with_reducible repeat (first | apply Kd.R_alloc | apply Kd.R_drewN | apply Kd.R_drew)); exact Kd.R_mono HO323.out (fun _ hk => hk.2)⟩, ⟨by (with_reducible repeat (first | apply Kd.R_alloc | apply Kd.R_drewN | apply Kd.R_drew)); exact Kd.R_mono HO327.out (fun _ hk => hk.2)⟩, ⟨by repeat (first | (with_reducible first | exact HB.out | apply below_alloc | apply pw_below_drewN | apply below_drew1) | exact HB.out)⟩⟩
        case rest =>
          clear HC9
          try clear c1
          try clear c2
          try clear p2
          try clear c3
          try clear c4
          try clear c4b0
          try clear c4b1
          try clear c5
          try clear c13
          try clear c13b0
          try clear c13b1
          try clear c13b2
          try clear c14
          try clear c15
          try clear p2
          obtain ⟨kq, x46_8, rfl, HA, HJ8, HO_6, HO_8, HB⟩ := hcut
          cases kq with
          | zero => exact absurd HA.out (by simp [laws_FnContourLeast.j1])
          | succ kj8 =>
            have H := HA.out
            clear HA
            simp only [laws_FnContourLeast.j1] at H
            by_cases c20 : x46_8 = true
            · subst c20
              have H1 : (if (t321 == t325) = true then ((laws_sameInts.f kj8 t320 t324).bind fun t329 => (some t329)) else (some false)) = some r := by rw [if_pos rfl] at H; exact H
              clear H
              have H := H1
              clear H1
              by_cases c21 : (t321 == t325) = true
              · rw [if_pos c21] at H
                have c21b0 : (t321 == t325) = true := c21
                (try (have c21b1 : decide (t321 = t325) = true := by simpa using c21))
                (try (have c21b2 : (t321 == t325) = true := by simpa using c21))
                clear c21
                replace H := Option.bind_eq_some_iff.mp H
                obtain ⟨t329, A220, H⟩ := H
                replace H : (some t329) = some r := H
                have A22 := Aside0.mk A220
                clear A220
                obtain rfl := Option.some.inj H
                obtain ⟨Ao23, co23, eo23⟩ := Kd.R_slice HO_6.out
                subst eo23
                obtain ⟨Ao24, co24, eo24⟩ := Kd.R_slice HO_8.out
                subst eo24
                go_wp2_with (first | (go_at_call 33; (with_reducible refine (laws_sameInts.calls kj8 _ _ t320 _ _ t324 t329 _ ?side1 ?side2 ?side3 ?side4 A22.out).mono ?_); (case side1 => repeat (first | exact (Kd.R_reads' HO_6.out).2.2 | (with_reducible refine Kd.C_alloc ?_ _) | (with_reducible refine Kd.C_drewN ?_ _) | (with_reducible refine Kd.C_drew ?_))); (case side2 => exact (Kd.R_reads' HO_6.out).2.1); (case side3 => repeat (first | exact (Kd.R_reads' HO_8.out).2.2 | (with_reducible refine Kd.C_alloc ?_ _) | (with_reducible refine Kd.C_drewN ?_ _) | (with_reducible refine Kd.C_drew ?_))); (case side4 => exact (Kd.R_reads' HO_8.out).2.1); rintro e w' ⟨rfl, ⟨nd, rfl⟩⟩))
                go_ret
                exact ⟨by first | rfl | (simp [errW_none, errW_some] <;> rfl) | (simp [*, errW_none, errW_some] <;> rfl), by repeat (first | (with_reducible first | exact HB.out | apply below_alloc | apply pw_below_drewN | apply below_drew1) | exact HB.out)⟩
              · rw [if_neg c21] at H
                have c21b0 : (t321 == t325) = false := by simpa using c21
                (try (have c21b1 : decide (t321 = t325) = false := by simpa using c21))
                (try (have c21b2 : (t321 == t325) = false := by simpa using c21))
                (try (have c21b3 : ¬ (t321 = t325) := by simpa using c21))
                clear c21
                obtain rfl := Option.some.inj H
                go_wp2
                go_ret
                exact ⟨by first | rfl | (simp [errW_none, errW_some] <;> rfl) | (simp [*, errW_none, errW_some] <;> rfl), by repeat (first | (with_reducible first | exact HB.out | apply below_alloc | apply pw_below_drewN | apply below_drew1) | exact HB.out)⟩
            · replace c20 := Bool.eq_false_iff.mpr c20
              subst c20
              have H1 : (if 0 < (t320.length : Int) then (laws_FnContourLeast.l0 kj8 l1 t319 t320 (rd t320 0) (rd t320 0) 0) else (none)) = some r := by rw [if_neg (show ¬ (false = true) by decide)] at H; exact H
              clear H
              have H := H1
              clear H1
              by_cases c25 : 0 < (t320.length : Int)
              · rw [if_pos c25] at H
                have c25b0 : decide (0 < (t320.length : Int)) = true := decide_eq_true c25
                have c25b1 : decide (0 < t320.length) = true := decide_eq_true (by omega)
                clear c25
                have H' := Aside0.mk H
                clear H
                obtain ⟨Ao26, co26, eo26⟩ := Kd.R_slice HO_6.out
                subst eo26
                have p330 : 0 ≤ (0 : Int) := (by omega)
                have q330 : 0 < (t320.length : Int) := of_decide_eq_true (by first | (with_reducible assumption) | assumption)
                obtain ⟨ad330, e330, hx330_0⟩ := Kd.at_int (Kd.R_reads' HO_6.out).2.2 0 p330 q330
                cases e330
                have qi330 : (0 < t320.length) = True := eq_true (by omega)
                (try rw [show ((0 : Int)).toNat = 0 from rfl] at hx330_0)
                (try rw [Addr.add_zero'] at hx330_0)
                replace p330 := eq_true p330
                replace q330 := eq_true q330
                have p331 : 0 ≤ (0 : Int) := (by omega)
                have q331 : 0 < (t320.length : Int) := of_decide_eq_true (by first | (with_reducible assumption) | assumption)
                obtain ⟨ad331, e331, hx331_0⟩ := Kd.at_int (Kd.R_reads' HO_6.out).2.2 0 p331 q331
                obtain rfl : ad330 = ad331 := (by injection e331)
                have qi331 : (0 < t320.length) = True := eq_true (by omega)
                (try rw [show ((0 : Int)).toNat = 0 from rfl] at hx331_0)
                (try rw [Addr.add_zero'] at hx331_0)
                replace p331 := eq_true p331
                replace q331 := eq_true q331
                go_wp2
                go_loopg [10, 11, 12] kj8 (fun kq v10 v11 v12 w' => ∃ (x10_3 : Int) (x11_3 : Int) (x12_3 : Int), v10 = .int .i64 x10_3 ∧ v11 = .int .i64 x11_3 ∧ v12 = .int .i64 x12_3 ∧ Aside0 (laws_FnContourLeast.l0 kq l1 t319 t320 x10_3 x11_3 x12_3 = some r) ∧ Aside0 (kq ≤ kj8) ∧ Aside0 (Kd.R (Kd.int .i64) 3 w' w.heap.size (fun _ => True) (.slice (some ad330) t320.length co26) t320) ∧ Aside0 (Below w.heap.size w w'))
                case atStart => exact ⟨(rd t320 0), (rd t320 0), (0), (by first | rfl | (simp; done) | (simp [*]; done)), (by first | rfl | (simp; done) | (simp [*]; done)), (by first | rfl | (simp; done) | (simp [*]; done)), H', ⟨Nat.le_refl _⟩, ⟨by (with_reducible repeat (first | apply Kd.R_alloc | apply Kd.R_drewN | apply Kd.R_drew)); exact Kd.R_mono HO_6.out (fun _ hk => trivial)⟩, ⟨by repeat (first | (with_reducible first | exact HB.out | apply below_alloc | apply pw_below_drewN | apply below_drew1) | exact HB.out)⟩⟩
                case round =>
                  clear H'
                  try clear c1
                  try clear c2
                  try clear p2
                  try clear c3
                  try clear p3
                  try clear q3
                  try clear hx3
                  try clear qi3
                  try clear c4
                  try clear c4b0
                  try clear c4b1
                  try clear c5
                  try clear c13
                  try clear c13b0
                  try clear c13b1
                  try clear c13b2
                  try clear c14
                  try clear c15
                  try clear c20
                  try clear c21
                  try clear c21b0
                  try clear c21b1
                  try clear c21b2
                  try clear c23
                  try clear c24
                  try clear c25
                  try clear c25b0
                  try clear c25b1
                  try clear hx330_0
                  try clear hx331_0
                  try clear p2
                  try clear p330
                  try clear p331
                  try clear q330
                  try clear q331
                  obtain ⟨x10_3, x11_3, x12_3, rfl, rfl, rfl, HA, HK3, HO_6, HB⟩ := hrel
                  cases gk with
                  | zero => exact absurd HA.out (by simp [laws_FnContourLeast.l0])
                  | succ k3 =>
                    have H := HA.out
                    clear HA
                    simp only [laws_FnContourLeast.l0] at H
                    by_cases c27 : x12_3 < (t320.length : Int)
                    · rw [if_pos c27] at H
                      have c27b0 : decide (x12_3 < (t320.length : Int)) = true := decide_eq_true c27
                      clear c27
                      by_cases c28 : 0 ≤ x12_3
                      · rw [if_pos c28] at H
                        have c28b0 : decide (0 ≤ x12_3) = true := decide_eq_true c28
                        clear c28
                        obtain ⟨ji29, hji29⟩ : ∃ j_ : Int, (mn x10_3 (rd t320 x12_3)) = j_ := ⟨_, rfl⟩
                        replace H : (laws_FnContourLeast.l0 k3 l1 t319 t320 ji29 (mx x11_3 (rd t320 x12_3)) (wrap64 (x12_3 + 1))) = some r := by first | (rw [hji29] at H; exact H) | (simp only [hji29] at H ⊢; exact H)
                        have hji29_ : (if (rd t320 x12_3) < x10_3 then (rd t320 x12_3) else x10_3) = ji29 := hji29
                        obtain ⟨ji30, hji30⟩ : ∃ j_ : Int, (mx x11_3 (rd t320 x12_3)) = j_ := ⟨_, rfl⟩
                        replace H : (laws_FnContourLeast.l0 k3 l1 t319 t320 ji29 ji30 (wrap64 (x12_3 + 1))) = some r := by first | (rw [hji30] at H; exact H) | (simp only [hji30] at H ⊢; exact H)
                        have hji30_ : (if x11_3 < (rd t320 x12_3) then (rd t320 x12_3) else x11_3) = ji30 := hji30
                        have H' := Aside0.mk H
                        clear H
                        have p332 : 0 ≤ (x12_3 : Int) := of_decide_eq_true (by first | (with_reducible assumption) | assumption)
                        have q332 : x12_3 < (t320.length : Int) := of_decide_eq_true (by first | (with_reducible assumption) | assumption)
                        obtain ⟨ad332, e332, hx332_0⟩ := Kd.at_int (Kd.R_reads' HO_6.out).2.2 x12_3 p332 q332
                        obtain rfl : ad330 = ad332 := (by injection e332)
                        replace p332 := eq_true p332
                        replace q332 := eq_true q332
                        have p333 : 0 ≤ (x12_3 : Int) := of_decide_eq_true (by first | (with_reducible assumption) | assumption)
                        have q333 : x12_3 < (t320.length : Int) := of_decide_eq_true (by first | (with_reducible assumption) | assumption)
                        obtain ⟨ad333, e333, hx333_0⟩ := Kd.at_int (Kd.R_reads' HO_6.out).2.2 x12_3 p333 q333
                        obtain rfl : ad330 = ad333 := (by injection e333)
                        replace p333 := eq_true p333
                        replace q333 := eq_true q333
                        go_wp2
                        go_roundg k3
                        case measure => have := HJ2.out; have := HJ8.out; have := HK3.out; omega
                        case rel => exact ⟨(ji29), (ji30), (wrap64 (x12_3 + 1)), (by first | rfl | (simp; done) | (simp only [← hji29] <;> (first | rfl | simp)) | (simp [*]; done)), (by first | rfl | (simp; done) | (simp only [← hji30] <;> (first | rfl | simp)) | (simp [*]; done)), (by first | rfl | (simp; done) | (simp [*]; done)), H', ⟨by have := HJ2.out; have := HJ8.out; have := HK3.out; omega⟩, ⟨by (with_reducible repeat (first | apply Kd.R_alloc | apply Kd.R_drewN | apply Kd.R_drew)); exact HO_6.out⟩, ⟨by repeat (first | (with_reducible first | exact HB.out | apply below_alloc | apply pw_below_drewN | apply below_drew1) | exact HB.out)⟩⟩
                      · rw [if_neg c28] at H
                        exact absurd H (by simp)
                    · rw [if_neg c27] at H
                      have c27b0 : decide (x12_3 < (t320.length : Int)) = false := decide_eq_false c27
                      clear c27
                      replace H := Option.bind_eq_some_iff.mp H
                      obtain ⟨t334, A310, H⟩ := H
                      replace H : (if t334.toList = t319.toList then (if x10_3 = 0 then (if (t319.size : Int) > 8 then (some true) else ((impl_ContourMany.f k3 t319 ((l1.length : Int) % 10)).bind fun t335 => (some ((decide (t335 > 0)) == (decide (((l1.length : Int) % 10) ≥ x11_3)))))) else (some false)) else (some false)) = some r := H
                      have A31 := Aside0.mk A310
                      clear A310
                      by_cases c32 : t334.toList = t319.toList
                      · rw [if_pos c32] at H
                        have c32b0 : (t334.toList == t319.toList) = true := beq_iff_eq.mpr c32
                        have c32b1 : (t334.toList != t319.toList) = false := bne_eq_false_iff_eq.mpr c32
                        clear c32
                        by_cases c33 : x10_3 = 0
                        · rw [if_pos c33] at H
                          have c33b0 : (x10_3 == 0) = true := beq_iff_eq.mpr c33
                          have c33b1 : (x10_3 != 0) = false := bne_eq_false_iff_eq.mpr c33
                          clear c33
                          by_cases c34 : (t319.size : Int) > 8
                          · rw [if_pos c34] at H
                            have c34b0 : decide (8 < (t319.size : Int)) = true := decide_eq_true c34
                            have c34b1 : decide (8 < t319.size) = true := decide_eq_true (by omega)
                            clear c34
                            obtain rfl := Option.some.inj H
                            go_wp2_with (first | ((with_reducible refine gate_callee (f := 34) rfl ?_); refine goesL_ (some 83) rfl rfl Tryd.func34 (by kernel_rfl) rfl #[.slice (some ad330) t320.length co26] rfl (by (try simp only [List.map_toArray, List.map_cons, List.map_nil]); first | done | rfl | (simp only [List.length_drop, List.length_take]; rfl)) ?_; (with_reducible refine (laws_contourOf.calls k3 _ _ t320 t334 _ ?side1 ?side2 A31.out).mono ?_); (case side1 => repeat (first | exact (Kd.R_reads' HO_6.out).2.2 | (with_reducible refine Kd.C_alloc ?_ _) | (with_reducible refine Kd.C_drewN ?_ _) | (with_reducible refine Kd.C_drew ?_))); (case side2 => exact (Kd.R_reads' HO_6.out).2.1); rintro e w' ⟨rfl, ⟨nd, rfl⟩⟩; refine ⟨_, rfl, ?_⟩))
                            go_ret
                            exact ⟨by first | rfl | (simp [errW_none, errW_some] <;> rfl) | (simp [*, errW_none, errW_some] <;> rfl), by repeat (first | (with_reducible first | exact HB.out | apply below_alloc | apply pw_below_drewN | apply below_drew1) | exact HB.out)⟩
                          · rw [if_neg c34] at H
                            have c34b0 : decide (8 < (t319.size : Int)) = false := decide_eq_false c34
                            have c34b1 : decide (8 < t319.size) = false := decide_eq_false (by omega)
                            clear c34
                            replace H := Option.bind_eq_some_iff.mp H
                            obtain ⟨t335, A350, H⟩ := H
                            replace H : (some ((decide (t335 > 0)) == (decide (((l1.length : Int) % 10) ≥ x11_3)))) = some r := H
                            have A35 := Aside0.mk A350
                            clear A350
                            obtain rfl := Option.some.inj H
                            go_wp2_with (first | ((with_reducible refine gate_callee (f := 34) rfl ?_); refine goesL_ (some 83) rfl rfl Tryd.func34 (by kernel_rfl) rfl #[.slice (some ad330) t320.length co26] rfl (by (try simp only [List.map_toArray, List.map_cons, List.map_nil]); first | done | rfl | (simp only [List.length_drop, List.length_take]; rfl)) ?_; (with_reducible refine (laws_contourOf.calls k3 _ _ t320 t334 _ ?side1 ?side2 A31.out).mono ?_); (case side1 => repeat (first | exact (Kd.R_reads' HO_6.out).2.2 | (with_reducible refine Kd.C_alloc ?_ _) | (with_reducible refine Kd.C_drewN ?_ _) | (with_reducible refine Kd.C_drew ?_))); (case side2 => exact (Kd.R_reads' HO_6.out).2.1); rintro e w' ⟨rfl, ⟨nd, rfl⟩⟩; refine ⟨_, rfl, ?_⟩) | (go_at_call 29; (with_reducible refine (impl_ContourMany.calls k3 t319 ((l1.length : Int) % 10) t335 _ A35.out).mono ?_); rintro e w36 ⟨rfl, hb⟩; have n0_ := Aside0.mk (Kd.R_below (by (with_reducible repeat (first | apply Kd.R_alloc | apply Kd.R_drewN | apply Kd.R_drew)); exact HO_6.out) hb); have n1_ := Aside0.mk (below_step (by repeat (first | (with_reducible first | exact HB.out | apply below_alloc | apply pw_below_drewN | apply below_drew1) | exact HB.out)) hb); clear HO_6; clear HB; have HO_6 := n0_; have HB := n1_; clear n0_ n1_; (try clear hb); (try clear hb2); (try clear hk); (try clear hi)))
                            go_ret
                            exact ⟨by first | rfl | (simp [errW_none, errW_some] <;> rfl) | (simp [*, errW_none, errW_some] <;> rfl), by repeat (first | (with_reducible first | exact HB.out | apply below_alloc | apply pw_below_drewN | apply below_drew1) | exact HB.out)⟩
                        · rw [if_neg c33] at H
                          have c33b0 : (x10_3 == 0) = false := beq_eq_false_iff_ne.mpr c33
                          have c33b1 : (x10_3 != 0) = true := bne_iff_ne.mpr c33
                          obtain rfl := Option.some.inj H
                          go_wp2_with (first | ((with_reducible refine gate_callee (f := 34) rfl ?_); refine goesL_ (some 83) rfl rfl Tryd.func34 (by kernel_rfl) rfl #[.slice (some ad330) t320.length co26] rfl (by (try simp only [List.map_toArray, List.map_cons, List.map_nil]); first | done | rfl | (simp only [List.length_drop, List.length_take]; rfl)) ?_; (with_reducible refine (laws_contourOf.calls k3 _ _ t320 t334 _ ?side1 ?side2 A31.out).mono ?_); (case side1 => repeat (first | exact (Kd.R_reads' HO_6.out).2.2 | (with_reducible refine Kd.C_alloc ?_ _) | (with_reducible refine Kd.C_drewN ?_ _) | (with_reducible refine Kd.C_drew ?_))); (case side2 => exact (Kd.R_reads' HO_6.out).2.1); rintro e w' ⟨rfl, ⟨nd, rfl⟩⟩; refine ⟨_, rfl, ?_⟩))
                          go_ret
                          exact ⟨by first | rfl | (simp [errW_none, errW_some] <;> rfl) | (simp [*, errW_none, errW_some] <;> rfl), by repeat (first | (with_reducible first | exact HB.out | apply below_alloc | apply pw_below_drewN | apply below_drew1) | exact HB.out)⟩
                      · rw [if_neg c32] at H
                        have c32b0 : (t334.toList == t319.toList) = false := beq_eq_false_iff_ne.mpr c32
                        have c32b1 : (t334.toList != t319.toList) = true := bne_iff_ne.mpr c32
                        obtain rfl := Option.some.inj H
                        go_wp2_with (first | ((with_reducible refine gate_callee (f := 34) rfl ?_); refine goesL_ (some 83) rfl rfl Tryd.func34 (by kernel_rfl) rfl #[.slice (some ad330) t320.length co26] rfl (by (try simp only [List.map_toArray, List.map_cons, List.map_nil]); first | done | rfl | (simp only [List.length_drop, List.length_take]; rfl)) ?_; (with_reducible refine (laws_contourOf.calls k3 _ _ t320 t334 _ ?side1 ?side2 A31.out).mono ?_); (case side1 => repeat (first | exact (Kd.R_reads' HO_6.out).2.2 | (with_reducible refine Kd.C_alloc ?_ _) | (with_reducible refine Kd.C_drewN ?_ _) | (with_reducible refine Kd.C_drew ?_))); (case side2 => exact (Kd.R_reads' HO_6.out).2.1); rintro e w' ⟨rfl, ⟨nd, rfl⟩⟩; refine ⟨_, rfl, ?_⟩))
                        go_ret
                        exact ⟨by first | rfl | (simp [errW_none, errW_some] <;> rfl) | (simp [*, errW_none, errW_some] <;> rfl), by repeat (first | (with_reducible first | exact HB.out | apply below_alloc | apply pw_below_drewN | apply below_drew1) | exact HB.out)⟩
              · rw [if_neg c25] at H
                exact absurd H (by simp)

end Go.Proofs.YtnbjfkjpaaoooaaDoor.XA
