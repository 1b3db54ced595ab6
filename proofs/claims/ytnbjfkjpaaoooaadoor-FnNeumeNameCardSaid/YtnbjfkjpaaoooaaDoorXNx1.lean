-- Written by this session's own program (wip/tools/xprint.py) out of the translation. Not trusted: Lean checks it.
import Derived.Test.YtnbjfkjpaaoooaaDoorXNx0
namespace Go.Proofs.YtnbjfkjpaaoooaaDoor.XN
open Go.RowKit Go.Proofs.YtnbjfkjpaaoooaaDoorW.PrintWords Go.Proofs.YtnbjfkjpaaoooaaDoorW.PrintLast Go.Proofs.YtnbjfkjpaaoooaaDoorW.PrintMore
attribute [local go_sem] max2_int min2_int max_two min_two max_three min_three max_four min_four   -- for this text's walks alone
set_option linter.unusedVariables false
set_option linter.unusedSimpArgs false

/-! ### spec_ContourValid: function 15 -/
def spec_ContourValid.l0 : Nat → ByteArray → Int → Option (Bool)
  | 0, _, _ => none
  | k + 1, x0, x3 => if x3 < (x0.size : Int) then (if 0 ≤ x3 then (if (bt x0 x3) = 117 then (spec_ContourValid.l0 k x0 (wrap64 (x3 + 1))) else (if (bt x0 x3) = 100 then (spec_ContourValid.l0 k x0 (wrap64 (x3 + 1))) else (if (bt x0 x3) = 115 then (spec_ContourValid.l0 k x0 (wrap64 (x3 + 1))) else (some false)))) else (none)) else (some (decide ((x0.size : Int) < 24)))
def spec_ContourValid.f (k : Nat) (a0 : ByteArray) : Option (Bool) := spec_ContourValid.l0 k a0 0
theorem spec_ContourValid.mono_l : ∀ k, (∀ y0 y1, LeO (spec_ContourValid.l0 k y0 y1) (spec_ContourValid.l0 (k + 1) y0 y1))
  | 0 => fun _ _ r h => by simp [spec_ContourValid.l0] at h
  | k + 1 => by
    have ih0 := spec_ContourValid.mono_l k
    · intro y0 y1
      unfold spec_ContourValid.l0
      repeat' first
      | (with_reducible exact ih0 _ _)
      | (with_reducible exact LeO.refl _)
      | (with_reducible exact LeO.none _)
      | (with_reducible refine LeO.ite ?_ ?_)
      | (with_reducible refine LeO.bind ?_ (fun _ => ?_))
      | exact ih0 _ _
      | exact LeO.none _
      | refine LeO.ite ?_ ?_
      | refine LeO.bind ?_ (fun _ => ?_)
theorem spec_ContourValid.mono : ∀ a0 k, LeO (spec_ContourValid.f k a0) (spec_ContourValid.f (k + 1) a0) := by
  intro a0 k
  have ih0 := spec_ContourValid.mono_l k
  unfold spec_ContourValid.f
  repeat' first
      | (with_reducible exact ih0 _ _)
      | (with_reducible exact LeO.refl _)
      | (with_reducible exact LeO.none _)
      | (with_reducible refine LeO.ite ?_ ?_)
      | (with_reducible refine LeO.bind ?_ (fun _ => ?_))
      | exact ih0 _ _
      | exact LeO.none _
      | refine LeO.ite ?_ ?_
      | refine LeO.bind ?_ (fun _ => ?_)
set_option maxHeartbeats 8000000 in
set_option maxRecDepth 100000 in
theorem spec_ContourValid.calls (k : Nat) (a0 : ByteArray) (r : Bool) (w : World) (h : spec_ContourValid.f k a0 = some r) :
    Calls Tryd.prog 15 #[.string a0] w fun e w' => e = .returned (.bool r) ∧ Drawn0 w w' := by
  have H : (spec_ContourValid.l0 k a0 0) = some r := h
  clear h
  have H' := Aside0.mk H
  clear H
  go_enter Tryd.func15, Tryd.ntmps15
  go_wp2
  go_loopg [3] k (fun kq v3 w' => ∃ (x3_1 : Int), v3 = .int .i64 x3_1 ∧ Aside0 (spec_ContourValid.l0 kq a0 x3_1 = some r) ∧ Aside0 (kq ≤ k) ∧ Drawn0 w w')
  case atStart => exact ⟨(0), (by first | rfl | (simp; done) | (simp [*]; done)), H', ⟨Nat.le_refl _⟩, by repeat (first | exact Drawn0.refl _ | apply Drawn0.step)⟩
  case round =>
    clear H'
    try clear c1
    obtain ⟨x3_1, rfl, HA, HK1, ⟨m1, rfl⟩⟩ := hrel
    cases gk with
    | zero => exact absurd HA.out (by simp [spec_ContourValid.l0])
    | succ k1 =>
      have H := HA.out
      clear HA
      simp only [spec_ContourValid.l0] at H
      by_cases c2 : x3_1 < (a0.size : Int)
      · rw [if_pos c2] at H
        have c2b0 : decide (x3_1 < (a0.size : Int)) = true := decide_eq_true c2
        clear c2
        by_cases c3 : 0 ≤ x3_1
        · rw [if_pos c3] at H
          have c3b0 : decide (0 ≤ x3_1) = true := decide_eq_true c3
          clear c3
          by_cases c5 : (bt a0 x3_1) = 117
          · rw [if_pos c5] at H
            have c5b0 : ((bt a0 x3_1) == 117) = true := beq_iff_eq.mpr c5
            have c5b1 : ((bt a0 x3_1) != 117) = false := bne_eq_false_iff_eq.mpr c5
            clear c5
            have H' := Aside0.mk H
            clear H
            have p4 : 0 ≤ (x3_1 : Int) := of_decide_eq_true (by first | (with_reducible assumption) | assumption)
            have q4 : x3_1 < (a0.size : Int) := of_decide_eq_true (by first | (with_reducible assumption) | assumption)
            have hx4 := bt_at a0 x3_1
            replace p4 := eq_true p4
            replace q4 := eq_true q4
            go_wp2
            go_roundg k1
            case measure => have := HK1.out; omega
            case rel => exact ⟨(wrap64 (x3_1 + 1)), (by first | rfl | (simp; done) | (simp [*]; done)), H', ⟨by have := HK1.out; omega⟩, by repeat (first | exact Drawn0.refl _ | apply Drawn0.step)⟩
          · rw [if_neg c5] at H
            have c5b0 : ((bt a0 x3_1) == 117) = false := beq_eq_false_iff_ne.mpr c5
            have c5b1 : ((bt a0 x3_1) != 117) = true := bne_iff_ne.mpr c5
            by_cases c7 : (bt a0 x3_1) = 100
            · rw [if_pos c7] at H
              have c7b0 : ((bt a0 x3_1) == 100) = true := beq_iff_eq.mpr c7
              have c7b1 : ((bt a0 x3_1) != 100) = false := bne_eq_false_iff_eq.mpr c7
              clear c7
              have H' := Aside0.mk H
              clear H
              have p4 : 0 ≤ (x3_1 : Int) := of_decide_eq_true (by first | (with_reducible assumption) | assumption)
              have q4 : x3_1 < (a0.size : Int) := of_decide_eq_true (by first | (with_reducible assumption) | assumption)
              have hx4 := bt_at a0 x3_1
              replace p4 := eq_true p4
              replace q4 := eq_true q4
              have p6 : 0 ≤ (x3_1 : Int) := of_decide_eq_true (by first | (with_reducible assumption) | assumption)
              have q6 : x3_1 < (a0.size : Int) := of_decide_eq_true (by first | (with_reducible assumption) | assumption)
              have hx6 := bt_at a0 x3_1
              replace p6 := eq_true p6
              replace q6 := eq_true q6
              go_wp2
              go_roundg k1
              case measure => have := HK1.out; omega
              case rel => exact ⟨(wrap64 (x3_1 + 1)), (by first | rfl | (simp; done) | (simp [*]; done)), H', ⟨by have := HK1.out; omega⟩, by repeat (first | exact Drawn0.refl _ | apply Drawn0.step)⟩
            · rw [if_neg c7] at H
              have c7b0 : ((bt a0 x3_1) == 100) = false := beq_eq_false_iff_ne.mpr c7
              have c7b1 : ((bt a0 x3_1) != 100) = true := bne_iff_ne.mpr c7
              by_cases c9 : (bt a0 x3_1) = 115
              · rw [if_pos c9] at H
                have c9b0 : ((bt a0 x3_1) == 115) = true := beq_iff_eq.mpr c9
                have c9b1 : ((bt a0 x3_1) != 115) = false := bne_eq_false_iff_eq.mpr c9
                clear c9
                have H' := Aside0.mk H
                clear H
                have p4 : 0 ≤ (x3_1 : Int) := of_decide_eq_true (by first | (with_reducible assumption) | assumption)
                have q4 : x3_1 < (a0.size : Int) := of_decide_eq_true (by first | (with_reducible assumption) | assumption)
                have hx4 := bt_at a0 x3_1
                replace p4 := eq_true p4
                replace q4 := eq_true q4
                have p6 : 0 ≤ (x3_1 : Int) := of_decide_eq_true (by first | (with_reducible assumption) | assumption)
                have q6 : x3_1 < (a0.size : Int) := of_decide_eq_true (by first | (with_reducible assumption) | assumption)
                have hx6 := bt_at a0 x3_1
                replace p6 := eq_true p6
                replace q6 := eq_true q6
                have p8 : 0 ≤ (x3_1 : Int) := of_decide_eq_true (by first | (with_reducible assumption) | assumption)
                have q8 : x3_1 < (a0.size : Int) := of_decide_eq_true (by first | (with_reducible assumption) | assumption)
                have hx8 := bt_at a0 x3_1
                replace p8 := eq_true p8
                replace q8 := eq_true q8
                go_wp2
                go_roundg k1
                case measure => have := HK1.out; omega
                case rel => exact ⟨(wrap64 (x3_1 + 1)), (by first | rfl | (simp; done) | (simp [*]; done)), H', ⟨by have := HK1.out; omega⟩, by repeat (first | exact Drawn0.refl _ | apply Drawn0.step)⟩
              · rw [if_neg c9] at H
                have c9b0 : ((bt a0 x3_1) == 115) = false := beq_eq_false_iff_ne.mpr c9
                have c9b1 : ((bt a0 x3_1) != 115) = true := bne_iff_ne.mpr c9
                obtain rfl := Option.some.inj H
                have p4 : 0 ≤ (x3_1 : Int) := of_decide_eq_true (by first | (with_reducible assumption) | assumption)
                have q4 : x3_1 < (a0.size : Int) := of_decide_eq_true (by first | (with_reducible assumption) | assumption)
                have hx4 := bt_at a0 x3_1
                replace p4 := eq_true p4
                replace q4 := eq_true q4
                have p6 : 0 ≤ (x3_1 : Int) := of_decide_eq_true (by first | (with_reducible assumption) | assumption)
                have q6 : x3_1 < (a0.size : Int) := of_decide_eq_true (by first | (with_reducible assumption) | assumption)
                have hx6 := bt_at a0 x3_1
                replace p6 := eq_true p6
                replace q6 := eq_true q6
                have p8 : 0 ≤ (x3_1 : Int) := of_decide_eq_true (by first | (with_reducible assumption) | assumption)
                have q8 : x3_1 < (a0.size : Int) := of_decide_eq_true (by first | (with_reducible assumption) | assumption)
                have hx8 := bt_at a0 x3_1
                replace p8 := eq_true p8
                replace q8 := eq_true q8
                go_wp2
                go_ret
                exact ⟨by first | rfl | (simp; done) | (simp [*]; done), by repeat (first | exact Drawn0.refl _ | apply Drawn0.step)⟩
        · rw [if_neg c3] at H
          exact absurd H (by simp)
      · rw [if_neg c2] at H
        have c2b0 : decide (x3_1 < (a0.size : Int)) = false := decide_eq_false c2
        clear c2
        obtain rfl := Option.some.inj H
        go_wp2
        go_ret
        exact ⟨by first | rfl | (simp; done) | (simp [*]; done), by repeat (first | exact Drawn0.refl _ | apply Drawn0.step)⟩

/-! ### spec_NeumeName: function 17 -/
def spec_NeumeName.j0 : Nat → ByteArray → Bool → Option (ByteArray)
  | 0, _, _ => none
  | k + 1, x0, x10 => if x10 = true then (some (⟨#[]⟩ : ByteArray)) else (if x0.toList = ([] : List UInt8) then (some (⟨#[112, 117, 110, 99, 116, 117, 109]⟩ : ByteArray)) else (if x0.toList = ([117] : List UInt8) then (some (⟨#[112, 101, 115]⟩ : ByteArray)) else (if x0.toList = ([100] : List UInt8) then (some (⟨#[99, 108, 105, 118, 105, 115]⟩ : ByteArray)) else (if x0.toList = ([117, 100] : List UInt8) then (some (⟨#[116, 111, 114, 99, 117, 108, 117, 115]⟩ : ByteArray)) else (if x0.toList = ([100, 117] : List UInt8) then (some (⟨#[112, 111, 114, 114, 101, 99, 116, 117, 115]⟩ : ByteArray)) else (if x0.toList = ([117, 117] : List UInt8) then (some (⟨#[115, 99, 97, 110, 100, 105, 99, 117, 115]⟩ : ByteArray)) else (if x0.toList = ([100, 100] : List UInt8) then (some (⟨#[99, 108, 105, 109, 97, 99, 117, 115]⟩ : ByteArray)) else (if 6 + x0.size ≤ 9223372036854775807 then (some ((⟨#[103, 114, 111, 117, 112, 45]⟩ : ByteArray) ++ x0)) else (none)))))))))
def spec_NeumeName.f (k : Nat) (a0 : ByteArray) : Option (ByteArray) := (spec_ContourValid.f k a0).bind fun t101 => (if t101 = true then (spec_NeumeName.j0 k a0 (decide ((a0.size : Int) ≥ 4))) else (spec_NeumeName.j0 k a0 true))
theorem spec_NeumeName.mono_l : ∀ k, (∀ y0 y1, LeO (spec_NeumeName.j0 k y0 y1) (spec_NeumeName.j0 (k + 1) y0 y1))
  | 0 => fun _ _ r h => by simp [spec_NeumeName.j0] at h
  | k + 1 => by
    have ih0 := spec_NeumeName.mono_l k
    · intro y0 y1
      unfold spec_NeumeName.j0
      repeat' first
      | (with_reducible exact ih0 _ _)
      | (with_reducible exact spec_ContourValid.mono _ _)
      | (with_reducible exact LeO.refl _)
      | (with_reducible exact LeO.none _)
      | (with_reducible refine LeO.ite ?_ ?_)
      | (with_reducible refine LeO.bind ?_ (fun _ => ?_))
      | exact ih0 _ _
      | exact spec_ContourValid.mono _ _
      | exact LeO.none _
      | refine LeO.ite ?_ ?_
      | refine LeO.bind ?_ (fun _ => ?_)
theorem spec_NeumeName.mono : ∀ a0 k, LeO (spec_NeumeName.f k a0) (spec_NeumeName.f (k + 1) a0) := by
  intro a0 k
  have ih0 := spec_NeumeName.mono_l k
  unfold spec_NeumeName.f
  repeat' first
      | (with_reducible exact ih0 _ _)
      | (with_reducible exact spec_ContourValid.mono _ _)
      | (with_reducible exact LeO.refl _)
      | (with_reducible exact LeO.none _)
      | (with_reducible refine LeO.ite ?_ ?_)
      | (with_reducible refine LeO.bind ?_ (fun _ => ?_))
      | exact ih0 _ _
      | exact spec_ContourValid.mono _ _
      | exact LeO.none _
      | refine LeO.ite ?_ ?_
      | refine LeO.bind ?_ (fun _ => ?_)
set_option maxHeartbeats 8000000 in
set_option maxRecDepth 100000 in
theorem spec_NeumeName.calls (k : Nat) (a0 : ByteArray) (r : ByteArray) (w : World) (h : spec_NeumeName.f k a0 = some r) :
    Calls Tryd.prog 17 #[.string a0] w fun e w' => e = .returned (.string r) ∧ Drawn0 w w' := by
  have H : ((spec_ContourValid.f k a0).bind fun t101 => (if t101 = true then (spec_NeumeName.j0 k a0 (decide ((a0.size : Int) ≥ 4))) else (spec_NeumeName.j0 k a0 true))) = some r := h
  clear h
  have HC2 := Aside0.mk H
  clear H
  go_enter Tryd.func17, Tryd.ntmps17
  go_upto_region 1 with (fail)
  go_cut [10] (fun v10 wc => ∃ (kq : Nat) (x10_1 : Bool), v10 = .bool x10_1 ∧ Aside0 (spec_NeumeName.j0 kq a0 x10_1 = some r) ∧ Aside0 (kq ≤ k) ∧ Drawn0 w wc)
  case first =>
    have H := HC2.out
    clear HC2
    replace H := Option.bind_eq_some_iff.mp H
    obtain ⟨t101, A30, H⟩ := H
    replace H : (if t101 = true then (spec_NeumeName.j0 k a0 (decide ((a0.size : Int) ≥ 4))) else (spec_NeumeName.j0 k a0 true)) = some r := H
    have A3 := Aside0.mk A30
    clear A30
    by_cases c4 : t101 = true
    · subst c4
      have H1 : (spec_NeumeName.j0 k a0 (decide ((a0.size : Int) ≥ 4))) = some r := by rw [if_pos rfl] at H; exact H
      clear H
      have H := H1
      clear H1
      have H' := Aside0.mk H
      clear H
      go_wp2_with (first | ((with_reducible refine gate_callee (f := 15) rfl ?_); refine goesL_ (some 4) rfl rfl Tryd.func15 (by kernel_rfl) rfl #[.string a0] rfl (by (try simp only [List.map_toArray, List.map_cons, List.map_nil]); first | done | rfl | (simp only [List.length_drop, List.length_take]; rfl)) ?_; (with_reducible refine (spec_ContourValid.calls k a0 true _ A3.out).mono ?_); rintro e w' ⟨rfl, ⟨nd, rfl⟩⟩; refine ⟨_, rfl, ?_⟩))
      go_meet
      case rel => exact ⟨_, (decide ((a0.size : Int) ≥ 4)), (by first | rfl | (simp; done) | (simp [*]; done)), H', ⟨by first | omega | exact Nat.le_refl _⟩, by repeat (first | exact Drawn0.refl _ | apply Drawn0.step)⟩
    · replace c4 := Bool.eq_false_iff.mpr c4
      subst c4
      have H1 : (spec_NeumeName.j0 k a0 true) = some r := by rw [if_neg (show ¬ (false = true) by decide)] at H; exact H
      clear H
      have H := H1
      clear H1
      have H' := Aside0.mk H
      clear H
      go_wp2_with (first | ((with_reducible refine gate_callee (f := 15) rfl ?_); refine goesL_ (some 4) rfl rfl Tryd.func15 (by kernel_rfl) rfl #[.string a0] rfl (by (try simp only [List.map_toArray, List.map_cons, List.map_nil]); first | done | rfl | (simp only [List.length_drop, List.length_take]; rfl)) ?_; (with_reducible refine (spec_ContourValid.calls k a0 false _ A3.out).mono ?_); rintro e w' ⟨rfl, ⟨nd, rfl⟩⟩; refine ⟨_, rfl, ?_⟩))
      go_meet
      case rel => exact ⟨_, (true), (by first | rfl | (simp; done) | (simp [*]; done)), H', ⟨by first | omega | exact Nat.le_refl _⟩, by repeat (first | exact Drawn0.refl _ | apply Drawn0.step)⟩
  case rest =>
    clear HC2
    try clear c1
    try clear p2
    try clear c4
    obtain ⟨kq, x10_1, rfl, HA, HJ1, ⟨mc1, rfl⟩⟩ := hcut
    cases kq with
    | zero => exact absurd HA.out (by simp [spec_NeumeName.j0])
    | succ kj1 =>
      have H := HA.out
      clear HA
      simp only [spec_NeumeName.j0] at H
      by_cases c5 : x10_1 = true
      · subst c5
        have H1 : (some (⟨#[]⟩ : ByteArray)) = some r := by rw [if_pos rfl] at H; exact H
        clear H
        have H := H1
        clear H1
        obtain rfl := Option.some.inj H
        go_wp2
        go_ret
        exact ⟨by first | rfl | (simp; done) | (simp [*]; done), by repeat (first | exact Drawn0.refl _ | apply Drawn0.step)⟩
      · replace c5 := Bool.eq_false_iff.mpr c5
        subst c5
        have H1 : (if a0.toList = ([] : List UInt8) then (some (⟨#[112, 117, 110, 99, 116, 117, 109]⟩ : ByteArray)) else (if a0.toList = ([117] : List UInt8) then (some (⟨#[112, 101, 115]⟩ : ByteArray)) else (if a0.toList = ([100] : List UInt8) then (some (⟨#[99, 108, 105, 118, 105, 115]⟩ : ByteArray)) else (if a0.toList = ([117, 100] : List UInt8) then (some (⟨#[116, 111, 114, 99, 117, 108, 117, 115]⟩ : ByteArray)) else (if a0.toList = ([100, 117] : List UInt8) then (some (⟨#[112, 111, 114, 114, 101, 99, 116, 117, 115]⟩ : ByteArray)) else (if a0.toList = ([117, 117] : List UInt8) then (some (⟨#[115, 99, 97, 110, 100, 105, 99, 117, 115]⟩ : ByteArray)) else (if a0.toList = ([100, 100] : List UInt8) then (some (⟨#[99, 108, 105, 109, 97, 99, 117, 115]⟩ : ByteArray)) else (if 6 + a0.size ≤ 9223372036854775807 then (some ((⟨#[103, 114, 111, 117, 112, 45]⟩ : ByteArray) ++ a0)) else (none))))))))) = some r := by rw [if_neg (show ¬ (false = true) by decide)] at H; exact H
        clear H
        have H := H1
        clear H1
        by_cases c6 : a0.toList = ([] : List UInt8)
        · rw [if_pos c6] at H
          have c6b0 : (a0.toList == ([] : List UInt8)) = true := beq_iff_eq.mpr c6
          have c6b1 : (a0.toList != ([] : List UInt8)) = false := bne_eq_false_iff_eq.mpr c6
          clear c6
          obtain rfl := Option.some.inj H
          go_wp2
          go_ret
          exact ⟨by first | rfl | (simp; done) | (simp [*]; done), by repeat (first | exact Drawn0.refl _ | apply Drawn0.step)⟩
        · rw [if_neg c6] at H
          have c6b0 : (a0.toList == ([] : List UInt8)) = false := beq_eq_false_iff_ne.mpr c6
          have c6b1 : (a0.toList != ([] : List UInt8)) = true := bne_iff_ne.mpr c6
          by_cases c7 : a0.toList = ([117] : List UInt8)
          · rw [if_pos c7] at H
            have c7b0 : (a0.toList == ([117] : List UInt8)) = true := beq_iff_eq.mpr c7
            have c7b1 : (a0.toList != ([117] : List UInt8)) = false := bne_eq_false_iff_eq.mpr c7
            clear c7
            obtain rfl := Option.some.inj H
            go_wp2
            go_ret
            exact ⟨by first | rfl | (simp; done) | (simp [*]; done), by repeat (first | exact Drawn0.refl _ | apply Drawn0.step)⟩
          · rw [if_neg c7] at H
            have c7b0 : (a0.toList == ([117] : List UInt8)) = false := beq_eq_false_iff_ne.mpr c7
            have c7b1 : (a0.toList != ([117] : List UInt8)) = true := bne_iff_ne.mpr c7
            by_cases c8 : a0.toList = ([100] : List UInt8)
            · rw [if_pos c8] at H
              have c8b0 : (a0.toList == ([100] : List UInt8)) = true := beq_iff_eq.mpr c8
              have c8b1 : (a0.toList != ([100] : List UInt8)) = false := bne_eq_false_iff_eq.mpr c8
              clear c8
              obtain rfl := Option.some.inj H
              go_wp2
              go_ret
              exact ⟨by first | rfl | (simp; done) | (simp [*]; done), by repeat (first | exact Drawn0.refl _ | apply Drawn0.step)⟩
            · rw [if_neg c8] at H
              have c8b0 : (a0.toList == ([100] : List UInt8)) = false := beq_eq_false_iff_ne.mpr c8
              have c8b1 : (a0.toList != ([100] : List UInt8)) = true := bne_iff_ne.mpr c8
              by_cases c9 : a0.toList = ([117, 100] : List UInt8)
              · rw [if_pos c9] at H
                have c9b0 : (a0.toList == ([117, 100] : List UInt8)) = true := beq_iff_eq.mpr c9
                have c9b1 : (a0.toList != ([117, 100] : List UInt8)) = false := bne_eq_false_iff_eq.mpr c9
                clear c9
                obtain rfl := Option.some.inj H
                go_wp2
                go_ret
                exact ⟨by first | rfl | (simp; done) | (simp [*]; done), by repeat (first | exact Drawn0.refl _ | apply Drawn0.step)⟩
              · rw [if_neg c9] at H
                have c9b0 : (a0.toList == ([117, 100] : List UInt8)) = false := beq_eq_false_iff_ne.mpr c9
                have c9b1 : (a0.toList != ([117, 100] : List UInt8)) = true := bne_iff_ne.mpr c9
                by_cases c10 : a0.toList = ([100, 117] : List UInt8)
                · rw [if_pos c10] at H
                  have c10b0 : (a0.toList == ([100, 117] : List UInt8)) = true := beq_iff_eq.mpr c10
                  have c10b1 : (a0.toList != ([100, 117] : List UInt8)) = false := bne_eq_false_iff_eq.mpr c10
                  clear c10
                  obtain rfl := Option.some.inj H
                  go_wp2
                  go_ret
                  exact ⟨by first | rfl | (simp; done) | (simp [*]; done), by repeat (first | exact Drawn0.refl _ | apply Drawn0.step)⟩
                · rw [if_neg c10] at H
                  have c10b0 : (a0.toList == ([100, 117] : List UInt8)) = false := beq_eq_false_iff_ne.mpr c10
                  have c10b1 : (a0.toList != ([100, 117] : List UInt8)) = true := bne_iff_ne.mpr c10
                  by_cases c11 : a0.toList = ([117, 117] : List UInt8)
                  · rw [if_pos c11] at H
                    have c11b0 : (a0.toList == ([117, 117] : List UInt8)) = true := beq_iff_eq.mpr c11
                    have c11b1 : (a0.toList != ([117, 117] : List UInt8)) = false := bne_eq_false_iff_eq.mpr c11
                    clear c11
                    obtain rfl := Option.some.inj H
                    go_wp2
                    go_ret
                    exact ⟨by first | rfl | (simp; done) | (simp [*]; done), by repeat (first | exact Drawn0.refl _ | apply Drawn0.step)⟩
                  · rw [if_neg c11] at H
                    have c11b0 : (a0.toList == ([117, 117] : List UInt8)) = false := beq_eq_false_iff_ne.mpr c11
                    have c11b1 : (a0.toList != ([117, 117] : List UInt8)) = true := bne_iff_ne.mpr c11
                    by_cases c12 : a0.toList = ([100, 100] : List UInt8)
                    · rw [if_pos c12] at H
                      have c12b0 : (a0.toList == ([100, 100] : List UInt8)) = true := beq_iff_eq.mpr c12
                      have c12b1 : (a0.toList != ([100, 100] : List UInt8)) = false := bne_eq_false_iff_eq.mpr c12
                      clear c12
                      obtain rfl := Option.some.inj H
                      go_wp2
                      go_ret
                      exact ⟨by first | rfl | (simp; done) | (simp [*]; done), by repeat (first | exact Drawn0.refl _ | apply Drawn0.step)⟩
                    · rw [if_neg c12] at H
                      have c12b0 : (a0.toList == ([100, 100] : List UInt8)) = false := beq_eq_false_iff_ne.mpr c12
                      have c12b1 : (a0.toList != ([100, 100] : List UInt8)) = true := bne_iff_ne.mpr c12
                      by_cases c13 : 6 + a0.size ≤ 9223372036854775807
                      · rw [if_pos c13] at H
                        have c13b0 := eq_true c13
                        have c13b1 : decide (6 + a0.size ≤ 9223372036854775807) = true := decide_eq_true c13
                        try have c13b2 : (9223372036854775807 < 6 + a0.size) = False := eq_false (Nat.not_lt.2 c13)
                        obtain rfl := Option.some.inj H
                        go_wp2
                        go_ret
                        exact ⟨by first | rfl | (simp; done) | (simp [*]; done), by repeat (first | exact Drawn0.refl _ | apply Drawn0.step)⟩
                      · rw [if_neg c13] at H
                        exact absurd H (by simp)

/-! ### strings_Trim: function 38 -/
/-- strings.Trim at an ASCII cutset. -/
def strings_Trim.f (a0 a1 : ByteArray) : Option ByteArray :=
  if a0.size ≤ 9223372036854775807 ∧ a1.size < 4294967281 ∧ a1.data.toList.all (fun b => decide (b.toNat < 128)) = true then some ⟨(Lib.trimS a0.data.toList a1.data.toList).toArray⟩ else none
theorem strings_Trim.calls (a0 a1 : ByteArray) (r : ByteArray) (w : World) (h : strings_Trim.f a0 a1 = some r) :
    Calls Tryd.prog 38 #[.string a0, .string a1] w fun e w' => e = .returned (.string r) ∧ Below w.heap.size w w' := by
  unfold strings_Trim.f at h
  by_cases hv : a0.size ≤ 9223372036854775807 ∧ a1.size < 4294967281 ∧ a1.data.toList.all (fun b => decide (b.toNat < 128)) = true
  · rw [if_pos hv] at h
    obtain rfl := Option.some.inj h
    exact Any.strings_Trim_laid Tryd.lays160 (by kernel_rfl) a0 a1 w hv.1 hv.2.1 (ascii_of_all hv.2.2)
  · rw [if_neg hv] at h
    cases h

/-! ### impl_ContourValid: function 16 -/
def impl_ContourValid.f (a0 : ByteArray) : Option (Bool) := if (a0.size : Int) ≤ 23 then ((strings_Trim.f a0 (⟨#[117, 100, 115]⟩ : ByteArray)).bind fun t102 => (some (t102.toList == ([] : List UInt8)))) else (some false)
set_option maxHeartbeats 8000000 in
set_option maxRecDepth 100000 in
theorem impl_ContourValid.calls (a0 : ByteArray) (r : Bool) (w : World) (h : impl_ContourValid.f a0 = some r) :
    Calls Tryd.prog 16 #[.string a0] w fun e w' => e = .returned (.bool r) ∧ Below w.heap.size w w' := by
  have HB := Aside0.mk (Below.refl w.heap.size w)
  have H : (if (a0.size : Int) ≤ 23 then ((strings_Trim.f a0 (⟨#[117, 100, 115]⟩ : ByteArray)).bind fun t102 => (some (t102.toList == ([] : List UInt8)))) else (some false)) = some r := h
  clear h
  by_cases c2 : (a0.size : Int) ≤ 23
  · rw [if_pos c2] at H
    have c2b0 : decide ((a0.size : Int) ≤ 23) = true := decide_eq_true c2
    have c2b1 : decide (a0.size ≤ 23) = true := decide_eq_true (by omega)
    clear c2
    replace H := Option.bind_eq_some_iff.mp H
    obtain ⟨t102, A30, H⟩ := H
    replace H : (some (t102.toList == ([] : List UInt8))) = some r := H
    have A3 := Aside0.mk A30
    clear A30
    obtain rfl := Option.some.inj H
    go_enter Tryd.func16, Tryd.ntmps16
    go_wp2_with (first | (go_at_call 38; (with_reducible refine (strings_Trim.calls a0 (⟨#[117, 100, 115]⟩ : ByteArray) t102 _ A3.out).mono ?_); rintro e w4 ⟨rfl, hb⟩; have n0_ := Aside0.mk (below_step (by repeat (first | (with_reducible first | exact HB.out | apply below_alloc | apply pw_below_drewN | apply below_drew1) | exact HB.out)) hb); clear HB; have HB := n0_; clear n0_; (try clear hb); (try clear hb2); (try clear hk); (try clear hi)))
    go_ret
    exact ⟨by first | rfl | (simp [errW_none, errW_some] <;> rfl) | (simp [*, errW_none, errW_some] <;> rfl), by repeat (first | (with_reducible first | exact HB.out | apply below_alloc | apply pw_below_drewN | apply below_drew1) | exact HB.out)⟩
  · rw [if_neg c2] at H
    have c2b0 : decide ((a0.size : Int) ≤ 23) = false := decide_eq_false c2
    have c2b1 : decide (a0.size ≤ 23) = false := decide_eq_false (by omega)
    clear c2
    obtain rfl := Option.some.inj H
    go_enter Tryd.func16, Tryd.ntmps16
    go_wp2
    go_ret
    exact ⟨by first | rfl | (simp [errW_none, errW_some] <;> rfl) | (simp [*, errW_none, errW_some] <;> rfl), by repeat (first | (with_reducible first | exact HB.out | apply below_alloc | apply pw_below_drewN | apply below_drew1) | exact HB.out)⟩

/-! ### impl_NeumeName: function 18 -/
/-- The name of a contour, out of rows. -/
def nmFrom (a0 : ByteArray) : List (List UInt8 × ByteArray) → ByteArray
  | [] => ⟨#[103, 114, 111, 117, 112, 45]⟩ ++ a0
  | r :: l => if (r.1 == a0.toList) = true then r.2 else nmFrom a0 l
def nps : List (List UInt8 × ByteArray) := [([], ⟨#[112, 117, 110, 99, 116, 117, 109]⟩), ([117], ⟨#[112, 101, 115]⟩), ([100], ⟨#[99, 108, 105, 118, 105, 115]⟩), ([117, 100], ⟨#[116, 111, 114, 99, 117, 108, 117, 115]⟩), ([100, 117], ⟨#[112, 111, 114, 114, 101, 99, 116, 117, 115]⟩), ([117, 117], ⟨#[115, 99, 97, 110, 100, 105, 99, 117, 115]⟩), ([100, 100], ⟨#[99, 108, 105, 109, 97, 99, 117, 115]⟩)]
def impl_NeumeName.f (a0 : ByteArray) : Option ByteArray := (impl_ContourValid.f a0).bind fun t => if t = true then (if (a0.size : Int) > 3 then some ⟨#[]⟩ else some (nmFrom a0 nps)) else some ⟨#[]⟩
set_option maxHeartbeats 2000000 in
theorem impl_NeumeName.calls (a0 : ByteArray) (r : ByteArray) (w : World) (h : impl_NeumeName.f a0 = some r) (hG : Aside0 (GL w)) :
    Calls Tryd.prog 18 #[.string a0] w fun e w' => e = .returned (.string r) ∧ Below w.heap.size w w' := by
  have HB : Aside0 (Below w.heap.size w w) := ⟨Below.refl _ _⟩
  unfold impl_NeumeName.f at h
  cases ht : impl_ContourValid.f a0 with
  | none => rw [ht] at h; exact absurd h (by simp)
  | some t =>
    rw [ht] at h
    replace h : (if t = true then (if (a0.size : Int) > 3 then some ⟨#[]⟩ else some (nmFrom a0 nps)) else some (⟨#[]⟩ : ByteArray)) = some r := h
    have A2 := Aside0.mk ht
    clear ht
    cases t with
    | false =>
      rw [if_neg (by simp)] at h
      obtain rfl := Option.some.inj h
      clear h hG
      go_enter Tryd.func18, Tryd.ntmps18
      go_wp2_with (first | ((with_reducible refine gate_callee (f := 16) rfl ?_); refine goesL_ (some 6) rfl rfl Tryd.func16 (by kernel_rfl) rfl #[.string a0] rfl (by (try simp only [List.map_toArray, List.map_cons, List.map_nil]); first | done | rfl) ?_; (with_reducible refine (impl_ContourValid.calls a0 false _ A2.out).mono ?_); rintro e w4 ⟨rfl, hb⟩; refine ⟨_, rfl, ?_⟩; have n0_ := Aside0.mk (below_step HB.out hb); clear HB; have HB := n0_; clear n0_; (try clear hb)))
      go_ret
      exact ⟨rfl, HB.out⟩
    | true =>
      rw [if_pos rfl] at h
      by_cases hs : (a0.size : Int) > 3
      · rw [if_pos hs] at h
        obtain rfl := Option.some.inj h
        clear h hG
        go_enter Tryd.func18, Tryd.ntmps18
        go_wp2_with (first | ((with_reducible refine gate_callee (f := 16) rfl ?_); refine goesL_ (some 6) rfl rfl Tryd.func16 (by kernel_rfl) rfl #[.string a0] rfl (by (try simp only [List.map_toArray, List.map_cons, List.map_nil]); first | done | rfl) ?_; (with_reducible refine (impl_ContourValid.calls a0 true _ A2.out).mono ?_); rintro e w4 ⟨rfl, hb⟩; refine ⟨_, rfl, ?_⟩; have n0_ := Aside0.mk (below_step HB.out hb); clear HB; have HB := n0_; clear n0_; (try clear hb)))
        go_ret
        exact ⟨rfl, HB.out⟩
      · rw [if_neg hs] at h
        obtain rfl := Option.some.inj h
        clear h
        have hz : Aside0 (a0.size ≤ 3) := ⟨by omega⟩
        go_enter Tryd.func18, Tryd.ntmps18
        go_wp2_with (first | ((with_reducible refine gate_callee (f := 16) rfl ?_); refine goesL_ (some 6) rfl rfl Tryd.func16 (by kernel_rfl) rfl #[.string a0] rfl (by (try simp only [List.map_toArray, List.map_cons, List.map_nil]); first | done | rfl) ?_; (with_reducible refine (impl_ContourValid.calls a0 true _ A2.out).mono ?_); rintro e w4 ⟨rfl, hb⟩; refine ⟨_, rfl, ?_⟩; have n0_ := Aside0.mk (below_step HB.out hb); clear HB; have HB := n0_; clear n0_; (try clear hb); have hG4 := Aside0.mk (hG.out.below HB.out); have c0_ : w4.cell? ⟨0, 0, none⟩ = some (.string ⟨#[]⟩) := hG4.out 0 (by omega); have c1_ : w4.cell? ⟨0, 1, none⟩ = some (.string ⟨#[112, 117, 110, 99, 116, 117, 109]⟩) := hG4.out 1 (by omega); have c2_ : w4.cell? ⟨0, 2, none⟩ = some (.string ⟨#[117]⟩) := hG4.out 2 (by omega); have c3_ : w4.cell? ⟨0, 3, none⟩ = some (.string ⟨#[112, 101, 115]⟩) := hG4.out 3 (by omega); have c4_ : w4.cell? ⟨0, 4, none⟩ = some (.string ⟨#[100]⟩) := hG4.out 4 (by omega); have c5_ : w4.cell? ⟨0, 5, none⟩ = some (.string ⟨#[99, 108, 105, 118, 105, 115]⟩) := hG4.out 5 (by omega); have c6_ : w4.cell? ⟨0, 6, none⟩ = some (.string ⟨#[117, 100]⟩) := hG4.out 6 (by omega); have c7_ : w4.cell? ⟨0, 7, none⟩ = some (.string ⟨#[116, 111, 114, 99, 117, 108, 117, 115]⟩) := hG4.out 7 (by omega); have c8_ : w4.cell? ⟨0, 8, none⟩ = some (.string ⟨#[100, 117]⟩) := hG4.out 8 (by omega); have c9_ : w4.cell? ⟨0, 9, none⟩ = some (.string ⟨#[112, 111, 114, 114, 101, 99, 116, 117, 115]⟩) := hG4.out 9 (by omega); have c10_ : w4.cell? ⟨0, 10, none⟩ = some (.string ⟨#[117, 117]⟩) := hG4.out 10 (by omega); have c11_ : w4.cell? ⟨0, 11, none⟩ = some (.string ⟨#[115, 99, 97, 110, 100, 105, 99, 117, 115]⟩) := hG4.out 11 (by omega); have c12_ : w4.cell? ⟨0, 12, none⟩ = some (.string ⟨#[100, 100]⟩) := hG4.out 12 (by omega); have c13_ : w4.cell? ⟨0, 13, none⟩ = some (.string ⟨#[99, 108, 105, 109, 97, 99, 117, 115]⟩) := hG4.out 13 (by omega)))
        clear c0_ c1_ c2_ c3_ c4_ c5_ c6_ c7_ c8_ c9_ c10_ c11_ c12_ c13_
        clear hG4 hG A2 hs
        go_loopg [14] 7 (fun kq v14 w' => ∃ i : Nat, v14 = .int .i64 (i : Int) ∧ Aside0 (nmFrom a0 (nps.drop i) = nmFrom a0 nps) ∧ Aside0 (i + kq = 7) ∧ Aside0 (Below w.heap.size w w'))
        case atStart => exact ⟨0, rfl, ⟨rfl⟩, ⟨rfl⟩, HB⟩
        case round =>
          obtain ⟨i, hv, hN, hK, HB⟩ := hrel
          have hi : i = 0 ∨ i = 1 ∨ i = 2 ∨ i = 3 ∨ i = 4 ∨ i = 5 ∨ i = 6 ∨ i = 7 := by have := hK.out; omega
          rcases hi with rfl | rfl | rfl | rfl | rfl | rfl | rfl | rfl
          · obtain rfl : u14 = .int .i64 0 := hv
            have hix : ∀ W : World, (Instr.index 43 (.agg #[.string ⟨#[]⟩, .string ⟨#[112, 117, 110, 99, 116, 117, 109]⟩, .string ⟨#[117]⟩, .string ⟨#[112, 101, 115]⟩, .string ⟨#[100]⟩, .string ⟨#[99, 108, 105, 118, 105, 115]⟩, .string ⟨#[117, 100]⟩, .string ⟨#[116, 111, 114, 99, 117, 108, 117, 115]⟩, .string ⟨#[100, 117]⟩, .string ⟨#[112, 111, 114, 114, 101, 99, 116, 117, 115]⟩, .string ⟨#[117, 117]⟩, .string ⟨#[115, 99, 97, 110, 100, 105, 99, 117, 115]⟩, .string ⟨#[100, 100]⟩, .string ⟨#[99, 108, 105, 109, 97, 99, 117, 115]⟩]) (.int .i64 0)).run Tryd.prog W = .ok (.agg #[.string ⟨#[]⟩, .string ⟨#[112, 117, 110, 99, 116, 117, 109]⟩]) W := fun W => by kernel_rfl
            have hc : (([] : List UInt8) == a0.toList) = a0.toList.isEmpty := by cases a0.toList <;> rfl
            obtain rfl : gk = 6 + 1 := by have := hK.out; omega
            by_cases e : a0.toList.isEmpty = true
            · have hrA : Aside0 (nmFrom a0 nps = ⟨#[112, 117, 110, 99, 116, 117, 109]⟩) := ⟨by rw [← hN.out]; show (if (([] : List UInt8) == a0.toList) = true then _ else _) = _; rw [hc, if_pos e]⟩
              clear hN hc
              go_wp2
              go_ret
              exact ⟨by rw [hrA.out]; rfl, by repeat (first | exact HB.out | apply below_alloc)⟩
            · have e2 : a0.toList.isEmpty = false := by simpa using e
              have hrA : Aside0 (nmFrom a0 (nps.drop 1) = nmFrom a0 nps) := ⟨by rw [← hN.out]; show _ = (if (([] : List UInt8) == a0.toList) = true then _ else _); rw [hc, if_neg e]; rfl⟩
              clear hN e hc
              go_wp2
              go_roundg 6
              case measure => omega
              case rel => exact ⟨1, rfl, hrA, ⟨rfl⟩, ⟨by repeat (first | exact HB.out | apply below_alloc)⟩⟩
          · obtain rfl : u14 = .int .i64 1 := hv
            have hix : ∀ W : World, (Instr.index 43 (.agg #[.string ⟨#[]⟩, .string ⟨#[112, 117, 110, 99, 116, 117, 109]⟩, .string ⟨#[117]⟩, .string ⟨#[112, 101, 115]⟩, .string ⟨#[100]⟩, .string ⟨#[99, 108, 105, 118, 105, 115]⟩, .string ⟨#[117, 100]⟩, .string ⟨#[116, 111, 114, 99, 117, 108, 117, 115]⟩, .string ⟨#[100, 117]⟩, .string ⟨#[112, 111, 114, 114, 101, 99, 116, 117, 115]⟩, .string ⟨#[117, 117]⟩, .string ⟨#[115, 99, 97, 110, 100, 105, 99, 117, 115]⟩, .string ⟨#[100, 100]⟩, .string ⟨#[99, 108, 105, 109, 97, 99, 117, 115]⟩]) (.int .i64 1)).run Tryd.prog W = .ok (.agg #[.string ⟨#[117]⟩, .string ⟨#[112, 101, 115]⟩]) W := fun W => by kernel_rfl
            have hc : (([117] : List UInt8) == a0.toList) = ([117] == a0.toList) := rfl
            obtain rfl : gk = 5 + 1 := by have := hK.out; omega
            by_cases e : ([117] == a0.toList) = true
            · have hrA : Aside0 (nmFrom a0 nps = ⟨#[112, 101, 115]⟩) := ⟨by rw [← hN.out]; show (if (([117] : List UInt8) == a0.toList) = true then _ else _) = _; rw [hc, if_pos e]⟩
              clear hN hc
              go_wp2
              go_ret
              exact ⟨by rw [hrA.out]; rfl, by repeat (first | exact HB.out | apply below_alloc)⟩
            · have e2 : ([117] == a0.toList) = false := by simpa using e
              have hrA : Aside0 (nmFrom a0 (nps.drop 2) = nmFrom a0 nps) := ⟨by rw [← hN.out]; show _ = (if (([117] : List UInt8) == a0.toList) = true then _ else _); rw [hc, if_neg e]; rfl⟩
              clear hN e hc
              go_wp2
              go_roundg 5
              case measure => omega
              case rel => exact ⟨2, rfl, hrA, ⟨rfl⟩, ⟨by repeat (first | exact HB.out | apply below_alloc)⟩⟩
          · obtain rfl : u14 = .int .i64 2 := hv
            have hix : ∀ W : World, (Instr.index 43 (.agg #[.string ⟨#[]⟩, .string ⟨#[112, 117, 110, 99, 116, 117, 109]⟩, .string ⟨#[117]⟩, .string ⟨#[112, 101, 115]⟩, .string ⟨#[100]⟩, .string ⟨#[99, 108, 105, 118, 105, 115]⟩, .string ⟨#[117, 100]⟩, .string ⟨#[116, 111, 114, 99, 117, 108, 117, 115]⟩, .string ⟨#[100, 117]⟩, .string ⟨#[112, 111, 114, 114, 101, 99, 116, 117, 115]⟩, .string ⟨#[117, 117]⟩, .string ⟨#[115, 99, 97, 110, 100, 105, 99, 117, 115]⟩, .string ⟨#[100, 100]⟩, .string ⟨#[99, 108, 105, 109, 97, 99, 117, 115]⟩]) (.int .i64 2)).run Tryd.prog W = .ok (.agg #[.string ⟨#[100]⟩, .string ⟨#[99, 108, 105, 118, 105, 115]⟩]) W := fun W => by kernel_rfl
            have hc : (([100] : List UInt8) == a0.toList) = ([100] == a0.toList) := rfl
            obtain rfl : gk = 4 + 1 := by have := hK.out; omega
            by_cases e : ([100] == a0.toList) = true
            · have hrA : Aside0 (nmFrom a0 nps = ⟨#[99, 108, 105, 118, 105, 115]⟩) := ⟨by rw [← hN.out]; show (if (([100] : List UInt8) == a0.toList) = true then _ else _) = _; rw [hc, if_pos e]⟩
              clear hN hc
              go_wp2
              go_ret
              exact ⟨by rw [hrA.out]; rfl, by repeat (first | exact HB.out | apply below_alloc)⟩
            · have e2 : ([100] == a0.toList) = false := by simpa using e
              have hrA : Aside0 (nmFrom a0 (nps.drop 3) = nmFrom a0 nps) := ⟨by rw [← hN.out]; show _ = (if (([100] : List UInt8) == a0.toList) = true then _ else _); rw [hc, if_neg e]; rfl⟩
              clear hN e hc
              go_wp2
              go_roundg 4
              case measure => omega
              case rel => exact ⟨3, rfl, hrA, ⟨rfl⟩, ⟨by repeat (first | exact HB.out | apply below_alloc)⟩⟩
          · obtain rfl : u14 = .int .i64 3 := hv
            have hix : ∀ W : World, (Instr.index 43 (.agg #[.string ⟨#[]⟩, .string ⟨#[112, 117, 110, 99, 116, 117, 109]⟩, .string ⟨#[117]⟩, .string ⟨#[112, 101, 115]⟩, .string ⟨#[100]⟩, .string ⟨#[99, 108, 105, 118, 105, 115]⟩, .string ⟨#[117, 100]⟩, .string ⟨#[116, 111, 114, 99, 117, 108, 117, 115]⟩, .string ⟨#[100, 117]⟩, .string ⟨#[112, 111, 114, 114, 101, 99, 116, 117, 115]⟩, .string ⟨#[117, 117]⟩, .string ⟨#[115, 99, 97, 110, 100, 105, 99, 117, 115]⟩, .string ⟨#[100, 100]⟩, .string ⟨#[99, 108, 105, 109, 97, 99, 117, 115]⟩]) (.int .i64 3)).run Tryd.prog W = .ok (.agg #[.string ⟨#[117, 100]⟩, .string ⟨#[116, 111, 114, 99, 117, 108, 117, 115]⟩]) W := fun W => by kernel_rfl
            have hc : (([117, 100] : List UInt8) == a0.toList) = ([117, 100] == a0.toList) := rfl
            obtain rfl : gk = 3 + 1 := by have := hK.out; omega
            by_cases e : ([117, 100] == a0.toList) = true
            · have hrA : Aside0 (nmFrom a0 nps = ⟨#[116, 111, 114, 99, 117, 108, 117, 115]⟩) := ⟨by rw [← hN.out]; show (if (([117, 100] : List UInt8) == a0.toList) = true then _ else _) = _; rw [hc, if_pos e]⟩
              clear hN hc
              go_wp2
              go_ret
              exact ⟨by rw [hrA.out]; rfl, by repeat (first | exact HB.out | apply below_alloc)⟩
            · have e2 : ([117, 100] == a0.toList) = false := by simpa using e
              have hrA : Aside0 (nmFrom a0 (nps.drop 4) = nmFrom a0 nps) := ⟨by rw [← hN.out]; show _ = (if (([117, 100] : List UInt8) == a0.toList) = true then _ else _); rw [hc, if_neg e]; rfl⟩
              clear hN e hc
              go_wp2
              go_roundg 3
              case measure => omega
              case rel => exact ⟨4, rfl, hrA, ⟨rfl⟩, ⟨by repeat (first | exact HB.out | apply below_alloc)⟩⟩
          · obtain rfl : u14 = .int .i64 4 := hv
            have hix : ∀ W : World, (Instr.index 43 (.agg #[.string ⟨#[]⟩, .string ⟨#[112, 117, 110, 99, 116, 117, 109]⟩, .string ⟨#[117]⟩, .string ⟨#[112, 101, 115]⟩, .string ⟨#[100]⟩, .string ⟨#[99, 108, 105, 118, 105, 115]⟩, .string ⟨#[117, 100]⟩, .string ⟨#[116, 111, 114, 99, 117, 108, 117, 115]⟩, .string ⟨#[100, 117]⟩, .string ⟨#[112, 111, 114, 114, 101, 99, 116, 117, 115]⟩, .string ⟨#[117, 117]⟩, .string ⟨#[115, 99, 97, 110, 100, 105, 99, 117, 115]⟩, .string ⟨#[100, 100]⟩, .string ⟨#[99, 108, 105, 109, 97, 99, 117, 115]⟩]) (.int .i64 4)).run Tryd.prog W = .ok (.agg #[.string ⟨#[100, 117]⟩, .string ⟨#[112, 111, 114, 114, 101, 99, 116, 117, 115]⟩]) W := fun W => by kernel_rfl
            have hc : (([100, 117] : List UInt8) == a0.toList) = ([100, 117] == a0.toList) := rfl
            obtain rfl : gk = 2 + 1 := by have := hK.out; omega
            by_cases e : ([100, 117] == a0.toList) = true
            · have hrA : Aside0 (nmFrom a0 nps = ⟨#[112, 111, 114, 114, 101, 99, 116, 117, 115]⟩) := ⟨by rw [← hN.out]; show (if (([100, 117] : List UInt8) == a0.toList) = true then _ else _) = _; rw [hc, if_pos e]⟩
              clear hN hc
              go_wp2
              go_ret
              exact ⟨by rw [hrA.out]; rfl, by repeat (first | exact HB.out | apply below_alloc)⟩
            · have e2 : ([100, 117] == a0.toList) = false := by simpa using e
              have hrA : Aside0 (nmFrom a0 (nps.drop 5) = nmFrom a0 nps) := ⟨by rw [← hN.out]; show _ = (if (([100, 117] : List UInt8) == a0.toList) = true then _ else _); rw [hc, if_neg e]; rfl⟩
              clear hN e hc
              go_wp2
              go_roundg 2
              case measure => omega
              case rel => exact ⟨5, rfl, hrA, ⟨rfl⟩, ⟨by repeat (first | exact HB.out | apply below_alloc)⟩⟩
          · obtain rfl : u14 = .int .i64 5 := hv
            have hix : ∀ W : World, (Instr.index 43 (.agg #[.string ⟨#[]⟩, .string ⟨#[112, 117, 110, 99, 116, 117, 109]⟩, .string ⟨#[117]⟩, .string ⟨#[112, 101, 115]⟩, .string ⟨#[100]⟩, .string ⟨#[99, 108, 105, 118, 105, 115]⟩, .string ⟨#[117, 100]⟩, .string ⟨#[116, 111, 114, 99, 117, 108, 117, 115]⟩, .string ⟨#[100, 117]⟩, .string ⟨#[112, 111, 114, 114, 101, 99, 116, 117, 115]⟩, .string ⟨#[117, 117]⟩, .string ⟨#[115, 99, 97, 110, 100, 105, 99, 117, 115]⟩, .string ⟨#[100, 100]⟩, .string ⟨#[99, 108, 105, 109, 97, 99, 117, 115]⟩]) (.int .i64 5)).run Tryd.prog W = .ok (.agg #[.string ⟨#[117, 117]⟩, .string ⟨#[115, 99, 97, 110, 100, 105, 99, 117, 115]⟩]) W := fun W => by kernel_rfl
            have hc : (([117, 117] : List UInt8) == a0.toList) = ([117, 117] == a0.toList) := rfl
            obtain rfl : gk = 1 + 1 := by have := hK.out; omega
            by_cases e : ([117, 117] == a0.toList) = true
            · have hrA : Aside0 (nmFrom a0 nps = ⟨#[115, 99, 97, 110, 100, 105, 99, 117, 115]⟩) := ⟨by rw [← hN.out]; show (if (([117, 117] : List UInt8) == a0.toList) = true then _ else _) = _; rw [hc, if_pos e]⟩
              clear hN hc
              go_wp2
              go_ret
              exact ⟨by rw [hrA.out]; rfl, by repeat (first | exact HB.out | apply below_alloc)⟩
            · have e2 : ([117, 117] == a0.toList) = false := by simpa using e
              have hrA : Aside0 (nmFrom a0 (nps.drop 6) = nmFrom a0 nps) := ⟨by rw [← hN.out]; show _ = (if (([117, 117] : List UInt8) == a0.toList) = true then _ else _); rw [hc, if_neg e]; rfl⟩
              clear hN e hc
              go_wp2
              go_roundg 1
              case measure => omega
              case rel => exact ⟨6, rfl, hrA, ⟨rfl⟩, ⟨by repeat (first | exact HB.out | apply below_alloc)⟩⟩
          · obtain rfl : u14 = .int .i64 6 := hv
            have hix : ∀ W : World, (Instr.index 43 (.agg #[.string ⟨#[]⟩, .string ⟨#[112, 117, 110, 99, 116, 117, 109]⟩, .string ⟨#[117]⟩, .string ⟨#[112, 101, 115]⟩, .string ⟨#[100]⟩, .string ⟨#[99, 108, 105, 118, 105, 115]⟩, .string ⟨#[117, 100]⟩, .string ⟨#[116, 111, 114, 99, 117, 108, 117, 115]⟩, .string ⟨#[100, 117]⟩, .string ⟨#[112, 111, 114, 114, 101, 99, 116, 117, 115]⟩, .string ⟨#[117, 117]⟩, .string ⟨#[115, 99, 97, 110, 100, 105, 99, 117, 115]⟩, .string ⟨#[100, 100]⟩, .string ⟨#[99, 108, 105, 109, 97, 99, 117, 115]⟩]) (.int .i64 6)).run Tryd.prog W = .ok (.agg #[.string ⟨#[100, 100]⟩, .string ⟨#[99, 108, 105, 109, 97, 99, 117, 115]⟩]) W := fun W => by kernel_rfl
            have hc : (([100, 100] : List UInt8) == a0.toList) = ([100, 100] == a0.toList) := rfl
            obtain rfl : gk = 0 + 1 := by have := hK.out; omega
            by_cases e : ([100, 100] == a0.toList) = true
            · have hrA : Aside0 (nmFrom a0 nps = ⟨#[99, 108, 105, 109, 97, 99, 117, 115]⟩) := ⟨by rw [← hN.out]; show (if (([100, 100] : List UInt8) == a0.toList) = true then _ else _) = _; rw [hc, if_pos e]⟩
              clear hN hc
              go_wp2
              go_ret
              exact ⟨by rw [hrA.out]; rfl, by repeat (first | exact HB.out | apply below_alloc)⟩
            · have e2 : ([100, 100] == a0.toList) = false := by simpa using e
              have hrA : Aside0 (nmFrom a0 (nps.drop 7) = nmFrom a0 nps) := ⟨by rw [← hN.out]; show _ = (if (([100, 100] : List UInt8) == a0.toList) = true then _ else _); rw [hc, if_neg e]; rfl⟩
              clear hN e hc
              go_wp2
              go_roundg 0
              case measure => omega
              case rel => exact ⟨7, rfl, hrA, ⟨rfl⟩, ⟨by repeat (first | exact HB.out | apply below_alloc)⟩⟩
          · obtain rfl : u14 = .int .i64 7 := hv
            have hz2 : (⟨#[103, 114, 111, 117, 112, 45]⟩ : ByteArray).size + a0.size ≤ 9223372036854775807 := by have := hz.out; show 6 + a0.size ≤ _; omega
            have hrA : Aside0 (⟨#[103, 114, 111, 117, 112, 45]⟩ ++ a0 = nmFrom a0 nps) := ⟨by rw [← hN.out]; rfl⟩
            clear hN
            go_wp2
            go_ret
            exact ⟨by rw [← hrA.out]; rfl, by repeat (first | exact HB.out | apply below_alloc)⟩

end Go.Proofs.YtnbjfkjpaaoooaaDoor.XN
