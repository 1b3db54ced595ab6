-- Written by this session's own program (wip/tools/xprint.py) out of the translation. Not trusted: Lean checks it.
import Derived.Test.YtocpicgepgphoaaDoorXAx0
import Derived.Test.YtocpicgepgphoaaDoorXAx1
import Derived.Test.YtocpicgepgphoaaDoorXAx5
import Derived.Test.YtocpicgepgphoaaDoorXAx13
namespace Go.Proofs.YtocpicgepgphoaaDoor.XA
open Go.RowKit Go.Proofs.YtocpicgepgphoaaDoorW.PrintWords Go.Proofs.YtocpicgepgphoaaDoorW.PrintLast Go.Proofs.YtocpicgepgphoaaDoorW.PrintMore
attribute [local go_sem] max2_int min2_int max_two min_two max_three min_three max_four min_four   -- for this text's walks alone
set_option linter.unusedVariables false
set_option linter.unusedSimpArgs false

/-! ### laws_FnVerse: function 3 -/
def laws_FnVerse.j0 : Nat → ByteArray → Int → Int → Bool → Option (Bool)
  | 0, _, _, _, _ => none
  | k + 1, x3, x4, x5, x24 => if x24 = true then (some (x4 == x5)) else ((impl_VerseHalves.f x3).bind fun bt229 => (if bt229.2.2 = true then (if bt229.1.size + 1 ≤ 9223372036854775807 then (if (bt229.1 ++ (⟨#[124]⟩ : ByteArray)).size + bt229.2.1.size ≤ 9223372036854775807 then (if ((bt229.1 ++ (⟨#[124]⟩ : ByteArray)) ++ bt229.2.1).toList = x3.toList then (if (wrap64 ((bt229.1.size : Int) + (bt229.2.1.size : Int))) = x4 then (if x4 ≤ 20 then (if bt229.2.1.size + 1 ≤ 9223372036854775807 then (if (bt229.2.1 ++ (⟨#[124]⟩ : ByteArray)).size + bt229.1.size ≤ 9223372036854775807 then ((impl_VerseSyllables.f ((bt229.2.1 ++ (⟨#[124]⟩ : ByteArray)) ++ bt229.1)).bind fun t232 => (if t232 = x4 then (if bt229.1.size + bt229.2.1.size ≤ 9223372036854775807 then ((impl_VerseValid.f (bt229.1 ++ bt229.2.1)).bind fun t233 => (some (!t233))) else (none)) else (some false))) else (none)) else (none)) else (some false)) else (some false)) else (some false)) else (none)) else (none)) else (some false)))
def laws_FnVerse.f (k : Nat) (l0 : List Int) : Option (Bool) := if (l0.length : Int) > 1048576 then (some true) else ((spec_DrawVerseSyllables.f k l0).bind fun t226 => ((impl_VerseSyllables.f t226).bind fun t227 => ((spec_VerseSyllables.f k t226).bind fun t228 => (if t227 = t228 then (laws_FnVerse.j0 k t226 t227 t228 (decide (t227 < 0))) else (laws_FnVerse.j0 k t226 t227 t228 true)))))
theorem laws_FnVerse.mono_l : ∀ k, (∀ y0 y1 y2 y3, LeO (laws_FnVerse.j0 k y0 y1 y2 y3) (laws_FnVerse.j0 (k + 1) y0 y1 y2 y3))
  | 0 => fun _ _ _ _ r h => by simp [laws_FnVerse.j0] at h
  | k + 1 => by
    have ih0 := laws_FnVerse.mono_l k
    · intro y0 y1 y2 y3
      unfold laws_FnVerse.j0
      repeat' first
      | (with_reducible exact ih0 _ _ _ _)
      | (with_reducible exact spec_DrawVerseSyllables.mono _ _)
      | (with_reducible exact spec_VerseSyllables.mono _ _)
      | (with_reducible exact LeO.refl _)
      | (with_reducible exact LeO.none _)
      | (with_reducible refine LeO.ite ?_ ?_)
      | (with_reducible refine LeO.bind ?_ (fun _ => ?_))
      | exact ih0 _ _ _ _
      | exact spec_DrawVerseSyllables.mono _ _
      | exact spec_VerseSyllables.mono _ _
      | exact LeO.none _
      | refine LeO.ite ?_ ?_
      | refine LeO.bind ?_ (fun _ => ?_)
theorem laws_FnVerse.mono : ∀ a0 k, LeO (laws_FnVerse.f k a0) (laws_FnVerse.f (k + 1) a0) := by
  intro a0 k
  have ih0 := laws_FnVerse.mono_l k
  unfold laws_FnVerse.f
  repeat' first
      | (with_reducible exact ih0 _ _ _ _)
      | (with_reducible exact spec_DrawVerseSyllables.mono _ _)
      | (with_reducible exact spec_VerseSyllables.mono _ _)
      | (with_reducible exact LeO.refl _)
      | (with_reducible exact LeO.none _)
      | (with_reducible refine LeO.ite ?_ ?_)
      | (with_reducible refine LeO.bind ?_ (fun _ => ?_))
      | exact ih0 _ _ _ _
      | exact spec_DrawVerseSyllables.mono _ _
      | exact spec_VerseSyllables.mono _ _
      | exact LeO.none _
      | refine LeO.ite ?_ ?_
      | refine LeO.bind ?_ (fun _ => ?_)
set_option maxHeartbeats 8000000 in
set_option maxRecDepth 100000 in
theorem laws_FnVerse.calls (k : Nat) (A0 : Option Addr) (c0 : Nat) (l0 : List Int) (r : Bool) (w : World) (hr0 : Kd.C (Kd.int .u8) w A0 l0.length l0) (hc0 : l0.length ≤ c0) (h : laws_FnVerse.f k l0 = some r) (hG : Aside0 (GL w)) :
    Calls Tryd.prog 3 #[.slice A0 l0.length c0] w fun e w' => e = .returned (.bool r) ∧ Below w.heap.size w w' := by
  have HR0 := Aside0.mk hr0
  have HC0 := Aside0.mk hc0
  clear hr0 hc0
  have HB := Aside0.mk (Below.refl w.heap.size w)
  have H : (if (l0.length : Int) > 1048576 then (some true) else ((spec_DrawVerseSyllables.f k l0).bind fun t226 => ((impl_VerseSyllables.f t226).bind fun t227 => ((spec_VerseSyllables.f k t226).bind fun t228 => (if t227 = t228 then (laws_FnVerse.j0 k t226 t227 t228 (decide (t227 < 0))) else (laws_FnVerse.j0 k t226 t227 t228 true)))))) = some r := h
  clear h
  by_cases c2 : (l0.length : Int) > 1048576
  · rw [if_pos c2] at H
    have c2b0 : decide (1048576 < (l0.length : Int)) = true := decide_eq_true c2
    have c2b1 : decide (1048576 < l0.length) = true := decide_eq_true (by omega)
    clear c2
    obtain rfl := Option.some.inj H
    go_enter Tryd.func3, Tryd.ntmps3
    go_wp2
    go_ret
    exact ⟨by first | rfl | (simp [errW_none, errW_some] <;> rfl) | (simp [*, errW_none, errW_some] <;> rfl), by repeat (first | (with_reducible first | exact HB.out | apply below_alloc | apply pw_below_drewN | apply below_drew1) | exact HB.out)⟩
  · rw [if_neg c2] at H
    have c2b0 : decide (1048576 < (l0.length : Int)) = false := decide_eq_false c2
    have c2b1 : decide (1048576 < l0.length) = false := decide_eq_false (by omega)
    clear c2
    replace H := Option.bind_eq_some_iff.mp H
    obtain ⟨t226, A30, H⟩ := H
    replace H : ((impl_VerseSyllables.f t226).bind fun t227 => ((spec_VerseSyllables.f k t226).bind fun t228 => (if t227 = t228 then (laws_FnVerse.j0 k t226 t227 t228 (decide (t227 < 0))) else (laws_FnVerse.j0 k t226 t227 t228 true)))) = some r := H
    have A3 := Aside0.mk A30
    clear A30
    replace H := Option.bind_eq_some_iff.mp H
    obtain ⟨t227, A40, H⟩ := H
    replace H : ((spec_VerseSyllables.f k t226).bind fun t228 => (if t227 = t228 then (laws_FnVerse.j0 k t226 t227 t228 (decide (t227 < 0))) else (laws_FnVerse.j0 k t226 t227 t228 true))) = some r := H
    have A4 := Aside0.mk A40
    clear A40
    replace H := Option.bind_eq_some_iff.mp H
    obtain ⟨t228, A50, H⟩ := H
    replace H : (if t227 = t228 then (laws_FnVerse.j0 k t226 t227 t228 (decide (t227 < 0))) else (laws_FnVerse.j0 k t226 t227 t228 true)) = some r := H
    have A5 := Aside0.mk A50
    clear A50
    have HC6 := Aside0.mk H
    clear H
    go_enter Tryd.func3, Tryd.ntmps3
    go_upto_region 6 with (first | ((with_reducible refine gate_callee (f := 12) rfl ?_); refine goesL_ (some 13) rfl rfl Tryd.func12 (by kernel_rfl) rfl #[.slice A0 l0.length c0] rfl (by (try simp only [List.map_toArray, List.map_cons, List.map_nil]); first | done | rfl | (simp only [List.length_drop, List.length_take]; rfl)) ?_; (with_reducible refine (spec_DrawVerseSyllables.calls k _ _ l0 t226 _ ?side1 ?side2 A3.out).mono ?_); (case side1 => repeat (first | exact HR0.out | (with_reducible refine Kd.C_alloc ?_ _) | (with_reducible refine Kd.C_drewN ?_ _) | (with_reducible refine Kd.C_drew ?_))); (case side2 => exact HC0.out); rintro e w7 ⟨rfl, hb⟩; refine ⟨_, rfl, ?_⟩; have n0_ := Aside0.mk (below_step (by repeat (first | (with_reducible first | exact HB.out | apply below_alloc | apply pw_below_drewN | apply below_drew1) | exact HB.out)) hb); clear HB; have HB := n0_; clear n0_; (try clear hb); (try clear hb2); (try clear hk); (try clear hi)) | ((with_reducible refine gate_callee (f := 13) rfl ?_); refine goesL_ (some 15) rfl rfl Tryd.func13 (by kernel_rfl) rfl #[.string t226] rfl (by (try simp only [List.map_toArray, List.map_cons, List.map_nil]); first | done | rfl | (simp only [List.length_drop, List.length_take]; rfl)) ?_; (with_reducible refine (impl_VerseSyllables.calls t226 t227 _ A4.out (GL.aside hG (by repeat (first | (with_reducible first | exact HB.out | apply below_alloc | apply pw_below_drewN | apply below_drew1) | exact HB.out)))).mono ?_); rintro e w8 ⟨rfl, hb⟩; refine ⟨_, rfl, ?_⟩; have n0_ := Aside0.mk (below_step (by repeat (first | (with_reducible first | exact HB.out | apply below_alloc | apply pw_below_drewN | apply below_drew1) | exact HB.out)) hb); clear HB; have HB := n0_; clear n0_; (try clear hb); (try clear hb2); (try clear hk); (try clear hi)) | ((with_reducible refine gate_callee (f := 14) rfl ?_); refine goesL_ (some 17) rfl rfl Tryd.func14 (by kernel_rfl) rfl #[.string t226] rfl (by (try simp only [List.map_toArray, List.map_cons, List.map_nil]); first | done | rfl | (simp only [List.length_drop, List.length_take]; rfl)) ?_; (with_reducible refine (spec_VerseSyllables.calls k t226 t228 _ A5.out).mono ?_); rintro e w' ⟨rfl, ⟨nd, rfl⟩⟩; refine ⟨_, rfl, ?_⟩))
    (try simp only [Act.put, List.setIfInBounds_toArray, List.set_cons_zero, List.set_cons_succ])
    go_cut [24] (fun v24 wc => ∃ (kq : Nat) (x24_5 : Bool), v24 = .bool x24_5 ∧ Aside0 (laws_FnVerse.j0 kq t226 t227 t228 x24_5 = some r) ∧ Aside0 (kq ≤ k) ∧ Aside0 (Below w.heap.size w wc))
    case first =>
      have H := HC6.out
      clear HC6
      by_cases c9 : t227 = t228
      · rw [if_pos c9] at H
        have c9b0 : (t227 == t228) = true := beq_iff_eq.mpr c9
        have c9b1 : (t227 != t228) = false := bne_eq_false_iff_eq.mpr c9
        clear c9
        (first | rw [c9b0] | (simp only [i64_w, i32_w]; rw [c9b0]) | skip)
        have H' := Aside0.mk H
        clear H
        go_wp2
        go_meet
        case rel => exact ⟨_, (decide (t227 < 0)), (by first | rfl | (simp; done) | (simp [*]; done)), H', ⟨by first | omega | exact Nat.le_refl _⟩, ⟨by repeat (first | (with_reducible first | exact HB.out | apply below_alloc | apply pw_below_drewN | apply below_drew1) | exact HB.out)⟩⟩
      · rw [if_neg c9] at H
        have c9b0 : (t227 == t228) = false := beq_eq_false_iff_ne.mpr c9
        have c9b1 : (t227 != t228) = true := bne_iff_ne.mpr c9
        (first | rw [c9b0] | (simp only [i64_w, i32_w]; rw [c9b0]) | skip)
        have H' := Aside0.mk H
        clear H
        go_wp2
        go_meet
        case rel => exact ⟨_, (true), (by first | rfl | (simp; done) | (simp [*]; done)), H', ⟨by first | omega | exact Nat.le_refl _⟩, ⟨by repeat (first | (with_reducible first | exact HB.out | apply below_alloc | apply pw_below_drewN | apply below_drew1) | exact HB.out)⟩⟩
    case rest =>
      clear HC6
      try clear c1
      try clear c2
      try clear c2b0
      try clear c2b1
      try clear p2
      try clear c3
      try clear c9
      try clear c9b0
      try clear c9b1
      obtain ⟨kq, x24_5, rfl, HA, HJ5, HB⟩ := hcut
      cases kq with
      | zero => exact absurd HA.out (by simp [laws_FnVerse.j0])
      | succ kj5 =>
        have H := HA.out
        clear HA
        simp only [laws_FnVerse.j0] at H
        by_cases c10 : x24_5 = true
        · subst c10
          have H1 : (some (t227 == t228)) = some r := by rw [if_pos rfl] at H; exact H
          clear H
          have H := H1
          clear H1
          obtain rfl := Option.some.inj H
          go_wp2
          go_ret
          exact ⟨by first | rfl | (simp [errW_none, errW_some] <;> rfl) | (simp [*, errW_none, errW_some] <;> rfl), by repeat (first | (with_reducible first | exact HB.out | apply below_alloc | apply pw_below_drewN | apply below_drew1) | exact HB.out)⟩
        · replace c10 := Bool.eq_false_iff.mpr c10
          subst c10
          have H1 : ((impl_VerseHalves.f t226).bind fun bt229 => (if bt229.2.2 = true then (if bt229.1.size + 1 ≤ 9223372036854775807 then (if (bt229.1 ++ (⟨#[124]⟩ : ByteArray)).size + bt229.2.1.size ≤ 9223372036854775807 then (if ((bt229.1 ++ (⟨#[124]⟩ : ByteArray)) ++ bt229.2.1).toList = t226.toList then (if (wrap64 ((bt229.1.size : Int) + (bt229.2.1.size : Int))) = t227 then (if t227 ≤ 20 then (if bt229.2.1.size + 1 ≤ 9223372036854775807 then (if (bt229.2.1 ++ (⟨#[124]⟩ : ByteArray)).size + bt229.1.size ≤ 9223372036854775807 then ((impl_VerseSyllables.f ((bt229.2.1 ++ (⟨#[124]⟩ : ByteArray)) ++ bt229.1)).bind fun t232 => (if t232 = t227 then (if bt229.1.size + bt229.2.1.size ≤ 9223372036854775807 then ((impl_VerseValid.f (bt229.1 ++ bt229.2.1)).bind fun t233 => (some (!t233))) else (none)) else (some false))) else (none)) else (none)) else (some false)) else (some false)) else (some false)) else (none)) else (none)) else (some false))) = some r := by rw [if_neg (show ¬ (false = true) by decide)] at H; exact H
          clear H
          have H := H1
          clear H1
          replace H := Option.bind_eq_some_iff.mp H
          obtain ⟨⟨t229, t230, t231⟩, A110, H⟩ := H
          replace H : (if t231 = true then (if t229.size + 1 ≤ 9223372036854775807 then (if (t229 ++ (⟨#[124]⟩ : ByteArray)).size + t230.size ≤ 9223372036854775807 then (if ((t229 ++ (⟨#[124]⟩ : ByteArray)) ++ t230).toList = t226.toList then (if (wrap64 ((t229.size : Int) + (t230.size : Int))) = t227 then (if t227 ≤ 20 then (if t230.size + 1 ≤ 9223372036854775807 then (if (t230 ++ (⟨#[124]⟩ : ByteArray)).size + t229.size ≤ 9223372036854775807 then ((impl_VerseSyllables.f ((t230 ++ (⟨#[124]⟩ : ByteArray)) ++ t229)).bind fun t232 => (if t232 = t227 then (if t229.size + t230.size ≤ 9223372036854775807 then ((impl_VerseValid.f (t229 ++ t230)).bind fun t233 => (some (!t233))) else (none)) else (some false))) else (none)) else (none)) else (some false)) else (some false)) else (some false)) else (none)) else (none)) else (some false)) = some r := H
          have A11 := Aside0.mk A110
          clear A110
          by_cases c12 : t231 = true
          · subst c12
            have H1 : (if t229.size + 1 ≤ 9223372036854775807 then (if (t229 ++ (⟨#[124]⟩ : ByteArray)).size + t230.size ≤ 9223372036854775807 then (if ((t229 ++ (⟨#[124]⟩ : ByteArray)) ++ t230).toList = t226.toList then (if (wrap64 ((t229.size : Int) + (t230.size : Int))) = t227 then (if t227 ≤ 20 then (if t230.size + 1 ≤ 9223372036854775807 then (if (t230 ++ (⟨#[124]⟩ : ByteArray)).size + t229.size ≤ 9223372036854775807 then ((impl_VerseSyllables.f ((t230 ++ (⟨#[124]⟩ : ByteArray)) ++ t229)).bind fun t232 => (if t232 = t227 then (if t229.size + t230.size ≤ 9223372036854775807 then ((impl_VerseValid.f (t229 ++ t230)).bind fun t233 => (some (!t233))) else (none)) else (some false))) else (none)) else (none)) else (some false)) else (some false)) else (some false)) else (none)) else (none)) = some r := by rw [if_pos rfl] at H; exact H
            clear H
            have H := H1
            clear H1
            by_cases c13 : t229.size + 1 ≤ 9223372036854775807
            · rw [if_pos c13] at H
              have c13b0 := eq_true c13
              have c13b1 : decide (t229.size + 1 ≤ 9223372036854775807) = true := decide_eq_true c13
              try have c13b2 : (9223372036854775807 < t229.size + 1) = False := eq_false (Nat.not_lt.2 c13)
              by_cases c14 : (t229 ++ (⟨#[124]⟩ : ByteArray)).size + t230.size ≤ 9223372036854775807
              · rw [if_pos c14] at H
                have c14b0 := eq_true c14
                have c14b1 : decide ((t229 ++ (⟨#[124]⟩ : ByteArray)).size + t230.size ≤ 9223372036854775807) = true := decide_eq_true c14
                try have c14b2 : (9223372036854775807 < (t229 ++ (⟨#[124]⟩ : ByteArray)).size + t230.size) = False := eq_false (Nat.not_lt.2 c14)
                by_cases c15 : ((t229 ++ (⟨#[124]⟩ : ByteArray)) ++ t230).toList = t226.toList
                · rw [if_pos c15] at H
                  have c15b0 : (((t229 ++ (⟨#[124]⟩ : ByteArray)) ++ t230).toList == t226.toList) = true := beq_iff_eq.mpr c15
                  have c15b1 : (((t229 ++ (⟨#[124]⟩ : ByteArray)) ++ t230).toList != t226.toList) = false := bne_eq_false_iff_eq.mpr c15
                  clear c15
                  by_cases c16 : (wrap64 ((t229.size : Int) + (t230.size : Int))) = t227
                  · rw [if_pos c16] at H
                    have c16b0 : ((wrap64 ((t229.size : Int) + (t230.size : Int))) == t227) = true := beq_iff_eq.mpr c16
                    have hz_ : wrap64 ((t229.size : Int) + (t230.size : Int)) = (t229.size : Int) + (t230.size : Int) := by (have h0_ := c14; rw [ByteArray.size_append] at h0_; unfold wrap64; omega)
                    have c16b0w := c16b0
                    rw [hz_] at c16b0w
                    clear hz_
                    have c16b1 : ((wrap64 ((t229.size : Int) + (t230.size : Int))) != t227) = false := bne_eq_false_iff_eq.mpr c16
                    have hz_ : wrap64 ((t229.size : Int) + (t230.size : Int)) = (t229.size : Int) + (t230.size : Int) := by (have h0_ := c14; rw [ByteArray.size_append] at h0_; unfold wrap64; omega)
                    have c16b1w := c16b1
                    rw [hz_] at c16b1w
                    clear hz_
                    clear c16
                    by_cases c17 : t227 ≤ 20
                    · rw [if_pos c17] at H
                      have c17b0 : decide (t227 ≤ 20) = true := decide_eq_true c17
                      clear c17
                      by_cases c18 : t230.size + 1 ≤ 9223372036854775807
                      · rw [if_pos c18] at H
                        have c18b0 := eq_true c18
                        have c18b1 : decide (t230.size + 1 ≤ 9223372036854775807) = true := decide_eq_true c18
                        try have c18b2 : (9223372036854775807 < t230.size + 1) = False := eq_false (Nat.not_lt.2 c18)
                        by_cases c19 : (t230 ++ (⟨#[124]⟩ : ByteArray)).size + t229.size ≤ 9223372036854775807
                        · rw [if_pos c19] at H
                          have c19b0 := eq_true c19
                          have c19b1 : decide ((t230 ++ (⟨#[124]⟩ : ByteArray)).size + t229.size ≤ 9223372036854775807) = true := decide_eq_true c19
                          try have c19b2 : (9223372036854775807 < (t230 ++ (⟨#[124]⟩ : ByteArray)).size + t229.size) = False := eq_false (Nat.not_lt.2 c19)
                          replace H := Option.bind_eq_some_iff.mp H
                          obtain ⟨t232, A200, H⟩ := H
                          replace H : (if t232 = t227 then (if t229.size + t230.size ≤ 9223372036854775807 then ((impl_VerseValid.f (t229 ++ t230)).bind fun t233 => (some (!t233))) else (none)) else (some false)) = some r := H
                          have A20 := Aside0.mk A200
                          clear A200
                          by_cases c21 : t232 = t227
                          · rw [if_pos c21] at H
                            have c21b0 : (t232 == t227) = true := beq_iff_eq.mpr c21
                            have c21b1 : (t232 != t227) = false := bne_eq_false_iff_eq.mpr c21
                            clear c21
                            by_cases c22 : t229.size + t230.size ≤ 9223372036854775807
                            · rw [if_pos c22] at H
                              have c22b0 := eq_true c22
                              have c22b1 : decide (t229.size + t230.size ≤ 9223372036854775807) = true := decide_eq_true c22
                              try have c22b2 : (9223372036854775807 < t229.size + t230.size) = False := eq_false (Nat.not_lt.2 c22)
                              replace H := Option.bind_eq_some_iff.mp H
                              obtain ⟨t233, A230, H⟩ := H
                              replace H : (some (!t233)) = some r := H
                              have A23 := Aside0.mk A230
                              clear A230
                              obtain rfl := Option.some.inj H
                              go_wp2_with (first | ((with_reducible refine gate_callee (f := 15) rfl ?_); refine goesL_ (some 30) rfl rfl Tryd.func15 (by kernel_rfl) rfl #[.string t226] rfl (by (try simp only [List.map_toArray, List.map_cons, List.map_nil]); first | done | rfl | (simp only [List.length_drop, List.length_take]; rfl)) ?_; (with_reducible refine (impl_VerseHalves.calls t226 t229 t230 true _ A11.out (GL.aside hG (by repeat (first | (with_reducible first | exact HB.out | apply below_alloc | apply pw_below_drewN | apply below_drew1) | exact HB.out)))).mono ?_); rintro e w24 ⟨rfl, hb⟩; refine ⟨_, rfl, ?_⟩; have n0_ := Aside0.mk (below_step (by repeat (first | (with_reducible first | exact HB.out | apply below_alloc | apply pw_below_drewN | apply below_drew1) | exact HB.out)) hb); clear HB; have HB := n0_; clear n0_; (try clear hb); (try clear hb2); (try clear hk); (try clear hi)) | (go_at_call 13; (with_reducible refine (impl_VerseSyllables.calls ((t230 ++ (⟨#[124]⟩ : ByteArray)) ++ t229) t232 _ A20.out (GL.aside hG (by repeat (first | (with_reducible first | exact HB.out | apply below_alloc | apply pw_below_drewN | apply below_drew1) | exact HB.out)))).mono ?_); rintro e w25 ⟨rfl, hb⟩; have n0_ := Aside0.mk (below_step (by repeat (first | (with_reducible first | exact HB.out | apply below_alloc | apply pw_below_drewN | apply below_drew1) | exact HB.out)) hb); clear HB; have HB := n0_; clear n0_; (try clear hb); (try clear hb2); (try clear hk); (try clear hi)) | (go_at_call 16; (with_reducible refine (impl_VerseValid.calls (t229 ++ t230) t233 _ A23.out (GL.aside hG (by repeat (first | (with_reducible first | exact HB.out | apply below_alloc | apply pw_below_drewN | apply below_drew1) | exact HB.out)))).mono ?_); rintro e w26 ⟨rfl, hb⟩; have n0_ := Aside0.mk (below_step (by repeat (first | (with_reducible first | exact HB.out | apply below_alloc | apply pw_below_drewN | apply below_drew1) | exact HB.out)) hb); clear HB; have HB := n0_; clear n0_; (try clear hb); (try clear hb2); (try clear hk); (try clear hi)))
                              go_ret
                              exact ⟨by first | rfl | (simp [errW_none, errW_some] <;> rfl) | (simp [*, errW_none, errW_some] <;> rfl), by repeat (first | (with_reducible first | exact HB.out | apply below_alloc | apply pw_below_drewN | apply below_drew1) | exact HB.out)⟩
                            · rw [if_neg c22] at H
                              exact absurd H (by simp)
                          · rw [if_neg c21] at H
                            have c21b0 : (t232 == t227) = false := beq_eq_false_iff_ne.mpr c21
                            have c21b1 : (t232 != t227) = true := bne_iff_ne.mpr c21
                            obtain rfl := Option.some.inj H
                            go_wp2_with (first | ((with_reducible refine gate_callee (f := 15) rfl ?_); refine goesL_ (some 30) rfl rfl Tryd.func15 (by kernel_rfl) rfl #[.string t226] rfl (by (try simp only [List.map_toArray, List.map_cons, List.map_nil]); first | done | rfl | (simp only [List.length_drop, List.length_take]; rfl)) ?_; (with_reducible refine (impl_VerseHalves.calls t226 t229 t230 true _ A11.out (GL.aside hG (by repeat (first | (with_reducible first | exact HB.out | apply below_alloc | apply pw_below_drewN | apply below_drew1) | exact HB.out)))).mono ?_); rintro e w27 ⟨rfl, hb⟩; refine ⟨_, rfl, ?_⟩; have n0_ := Aside0.mk (below_step (by repeat (first | (with_reducible first | exact HB.out | apply below_alloc | apply pw_below_drewN | apply below_drew1) | exact HB.out)) hb); clear HB; have HB := n0_; clear n0_; (try clear hb); (try clear hb2); (try clear hk); (try clear hi)) | (go_at_call 13; (with_reducible refine (impl_VerseSyllables.calls ((t230 ++ (⟨#[124]⟩ : ByteArray)) ++ t229) t232 _ A20.out (GL.aside hG (by repeat (first | (with_reducible first | exact HB.out | apply below_alloc | apply pw_below_drewN | apply below_drew1) | exact HB.out)))).mono ?_); rintro e w28 ⟨rfl, hb⟩; have n0_ := Aside0.mk (below_step (by repeat (first | (with_reducible first | exact HB.out | apply below_alloc | apply pw_below_drewN | apply below_drew1) | exact HB.out)) hb); clear HB; have HB := n0_; clear n0_; (try clear hb); (try clear hb2); (try clear hk); (try clear hi)))
                            go_ret
                            exact ⟨by first | rfl | (simp [errW_none, errW_some] <;> rfl) | (simp [*, errW_none, errW_some] <;> rfl), by repeat (first | (with_reducible first | exact HB.out | apply below_alloc | apply pw_below_drewN | apply below_drew1) | exact HB.out)⟩
                        · rw [if_neg c19] at H
                          exact absurd H (by simp)
                      · rw [if_neg c18] at H
                        exact absurd H (by simp)
                    · rw [if_neg c17] at H
                      have c17b0 : decide (t227 ≤ 20) = false := decide_eq_false c17
                      clear c17
                      obtain rfl := Option.some.inj H
                      go_wp2_with (first | ((with_reducible refine gate_callee (f := 15) rfl ?_); refine goesL_ (some 30) rfl rfl Tryd.func15 (by kernel_rfl) rfl #[.string t226] rfl (by (try simp only [List.map_toArray, List.map_cons, List.map_nil]); first | done | rfl | (simp only [List.length_drop, List.length_take]; rfl)) ?_; (with_reducible refine (impl_VerseHalves.calls t226 t229 t230 true _ A11.out (GL.aside hG (by repeat (first | (with_reducible first | exact HB.out | apply below_alloc | apply pw_below_drewN | apply below_drew1) | exact HB.out)))).mono ?_); rintro e w29 ⟨rfl, hb⟩; refine ⟨_, rfl, ?_⟩; have n0_ := Aside0.mk (below_step (by repeat (first | (with_reducible first | exact HB.out | apply below_alloc | apply pw_below_drewN | apply below_drew1) | exact HB.out)) hb); clear HB; have HB := n0_; clear n0_; (try clear hb); (try clear hb2); (try clear hk); (try clear hi)))
                      go_ret
                      exact ⟨by first | rfl | (simp [errW_none, errW_some] <;> rfl) | (simp [*, errW_none, errW_some] <;> rfl), by repeat (first | (with_reducible first | exact HB.out | apply below_alloc | apply pw_below_drewN | apply below_drew1) | exact HB.out)⟩
                  · rw [if_neg c16] at H
                    have c16b0 : ((wrap64 ((t229.size : Int) + (t230.size : Int))) == t227) = false := beq_eq_false_iff_ne.mpr c16
                    have hz_ : wrap64 ((t229.size : Int) + (t230.size : Int)) = (t229.size : Int) + (t230.size : Int) := by (have h0_ := c14; rw [ByteArray.size_append] at h0_; unfold wrap64; omega)
                    have c16b0w := c16b0
                    rw [hz_] at c16b0w
                    clear hz_
                    have c16b1 : ((wrap64 ((t229.size : Int) + (t230.size : Int))) != t227) = true := bne_iff_ne.mpr c16
                    have hz_ : wrap64 ((t229.size : Int) + (t230.size : Int)) = (t229.size : Int) + (t230.size : Int) := by (have h0_ := c14; rw [ByteArray.size_append] at h0_; unfold wrap64; omega)
                    have c16b1w := c16b1
                    rw [hz_] at c16b1w
                    clear hz_
                    obtain rfl := Option.some.inj H
                    go_wp2_with (first | ((with_reducible refine gate_callee (f := 15) rfl ?_); refine goesL_ (some 30) rfl rfl Tryd.func15 (by kernel_rfl) rfl #[.string t226] rfl (by (try simp only [List.map_toArray, List.map_cons, List.map_nil]); first | done | rfl | (simp only [List.length_drop, List.length_take]; rfl)) ?_; (with_reducible refine (impl_VerseHalves.calls t226 t229 t230 true _ A11.out (GL.aside hG (by repeat (first | (with_reducible first | exact HB.out | apply below_alloc | apply pw_below_drewN | apply below_drew1) | exact HB.out)))).mono ?_); rintro e w30 ⟨rfl, hb⟩; refine ⟨_, rfl, ?_⟩; have n0_ := Aside0.mk (below_step (by repeat (first | (with_reducible first | exact HB.out | apply below_alloc | apply pw_below_drewN | apply below_drew1) | exact HB.out)) hb); clear HB; have HB := n0_; clear n0_; (try clear hb); (try clear hb2); (try clear hk); (try clear hi)))
                    go_ret
                    exact ⟨by first | rfl | (simp [errW_none, errW_some] <;> rfl) | (simp [*, errW_none, errW_some] <;> rfl), by repeat (first | (with_reducible first | exact HB.out | apply below_alloc | apply pw_below_drewN | apply below_drew1) | exact HB.out)⟩
                · rw [if_neg c15] at H
                  have c15b0 : (((t229 ++ (⟨#[124]⟩ : ByteArray)) ++ t230).toList == t226.toList) = false := beq_eq_false_iff_ne.mpr c15
                  have c15b1 : (((t229 ++ (⟨#[124]⟩ : ByteArray)) ++ t230).toList != t226.toList) = true := bne_iff_ne.mpr c15
                  obtain rfl := Option.some.inj H
                  go_wp2_with (first | ((with_reducible refine gate_callee (f := 15) rfl ?_); refine goesL_ (some 30) rfl rfl Tryd.func15 (by kernel_rfl) rfl #[.string t226] rfl (by (try simp only [List.map_toArray, List.map_cons, List.map_nil]); first | done | rfl | (simp only [List.length_drop, List.length_take]; rfl)) ?_; (with_reducible refine (impl_VerseHalves.calls t226 t229 t230 true _ A11.out (GL.aside hG (by repeat (first | (with_reducible first | exact HB.out | apply below_alloc | apply pw_below_drewN | apply below_drew1) | exact HB.out)))).mono ?_); rintro e w31 ⟨rfl, hb⟩; refine ⟨_, rfl, ?_⟩; have n0_ := Aside0.mk (below_step (by repeat (first | (with_reducible first | exact HB.out | apply below_alloc | apply pw_below_drewN | apply below_drew1) | exact HB.out)) hb); clear HB; have HB := n0_; clear n0_; (try clear hb); (try clear hb2); (try clear hk); (try clear hi)))
                  go_ret
                  exact ⟨by first | rfl | (simp [errW_none, errW_some] <;> rfl) | (simp [*, errW_none, errW_some] <;> rfl), by repeat (first | (with_reducible first | exact HB.out | apply below_alloc | apply pw_below_drewN | apply below_drew1) | exact HB.out)⟩
              · rw [if_neg c14] at H
                exact absurd H (by simp)
            · rw [if_neg c13] at H
              exact absurd H (by simp)
          · replace c12 := Bool.eq_false_iff.mpr c12
            subst c12
            have H1 : (some false) = some r := by rw [if_neg (show ¬ (false = true) by decide)] at H; exact H
            clear H
            have H := H1
            clear H1
            obtain rfl := Option.some.inj H
            go_wp2_with (first | ((with_reducible refine gate_callee (f := 15) rfl ?_); refine goesL_ (some 30) rfl rfl Tryd.func15 (by kernel_rfl) rfl #[.string t226] rfl (by (try simp only [List.map_toArray, List.map_cons, List.map_nil]); first | done | rfl | (simp only [List.length_drop, List.length_take]; rfl)) ?_; (with_reducible refine (impl_VerseHalves.calls t226 t229 t230 false _ A11.out (GL.aside hG (by repeat (first | (with_reducible first | exact HB.out | apply below_alloc | apply pw_below_drewN | apply below_drew1) | exact HB.out)))).mono ?_); rintro e w32 ⟨rfl, hb⟩; refine ⟨_, rfl, ?_⟩; have n0_ := Aside0.mk (below_step (by repeat (first | (with_reducible first | exact HB.out | apply below_alloc | apply pw_below_drewN | apply below_drew1) | exact HB.out)) hb); clear HB; have HB := n0_; clear n0_; (try clear hb); (try clear hb2); (try clear hk); (try clear hi)))
            go_ret
            exact ⟨by first | rfl | (simp [errW_none, errW_some] <;> rfl) | (simp [*, errW_none, errW_some] <;> rfl), by repeat (first | (with_reducible first | exact HB.out | apply below_alloc | apply pw_below_drewN | apply below_drew1) | exact HB.out)⟩

end Go.Proofs.YtocpicgepgphoaaDoor.XA
