-- Written by this session's own program (wip/tools/xprint.py) out of the translation. Not trusted: Lean checks it.
import Derived.Test.YtpfgeflnhkpmaaaDoorXNx0
import Derived.Test.YtpfgeflnhkpmaaaDoorXNx2
namespace Go.Proofs.YtpfgeflnhkpmaaaDoor.XN
open Go.RowKit Go.Proofs.YtpfgeflnhkpmaaaDoorW.PrintWords Go.Proofs.YtpfgeflnhkpmaaaDoorW.PrintLast Go.Proofs.YtpfgeflnhkpmaaaDoorW.PrintMore
attribute [local go_sem] max2_int min2_int max_two min_two max_three min_three max_four min_four   -- for this text's walks alone
set_option linter.unusedVariables false
set_option linter.unusedSimpArgs false

/-! ### spec_ToneNames: function 6 -/
def spec_ToneNames.l0 : Nat → List Int → ByteArray → Int → Int → Bool → Option (ByteArray)
  | 0, _, _, _, _, _ => none
  | k + 1, x3, x4, x5, x125000, x125001 => if x5 ≥ 0 then (if x4.toList = ([] : List UInt8) then ((some (([(⟨#[117, 116]⟩ : ByteArray), (⟨#[114, 101]⟩ : ByteArray), (⟨#[109, 105]⟩ : ByteArray), (⟨#[102, 97]⟩ : ByteArray), (⟨#[115, 111, 108]⟩ : ByteArray), (⟨#[108, 97]⟩ : ByteArray)] : List ByteArray) : List ByteArray)).bind fun y128 => (if 0 ≤ x5 then (if x5 < (x3.length : Int) then ((spec_HexSyllable.f k (rd x3 x5) x125000 x125001).bind fun t132 => (if 0 ≤ t132 then (if t132 < (y128.length : Int) then (if x4.size + (rdOf ByteArray.empty y128 t132).size ≤ 9223372036854775807 then (spec_ToneNames.l0 k x3 (x4 ++ (rdOf ByteArray.empty y128 t132)) (wrap64 (x5 - 1)) x125000 x125001) else (none)) else (none)) else (none))) else (none)) else (none))) else (if x4.size + 1 ≤ 9223372036854775807 then ((some (([(⟨#[117, 116]⟩ : ByteArray), (⟨#[114, 101]⟩ : ByteArray), (⟨#[109, 105]⟩ : ByteArray), (⟨#[102, 97]⟩ : ByteArray), (⟨#[115, 111, 108]⟩ : ByteArray), (⟨#[108, 97]⟩ : ByteArray)] : List ByteArray) : List ByteArray)).bind fun y134 => (if 0 ≤ x5 then (if x5 < (x3.length : Int) then ((spec_HexSyllable.f k (rd x3 x5) x125000 x125001).bind fun t138 => (if 0 ≤ t138 then (if t138 < (y134.length : Int) then (if (x4 ++ (⟨#[32]⟩ : ByteArray)).size + (rdOf ByteArray.empty y134 t138).size ≤ 9223372036854775807 then (spec_ToneNames.l0 k x3 ((x4 ++ (⟨#[32]⟩ : ByteArray)) ++ (rdOf ByteArray.empty y134 t138)) (wrap64 (x5 - 1)) x125000 x125001) else (none)) else (none)) else (none))) else (none)) else (none))) else (none))) else (some x4)
def spec_ToneNames.f (k : Nat) (a0_0 : Int) (a0_1 : Bool) : Option (ByteArray) := (spec_HexAll.f k a0_0 a0_1).bind fun t125 => (spec_ToneNames.l0 k t125 (⟨#[]⟩ : ByteArray) (wrap64 ((t125.length : Int) - 1)) a0_0 a0_1)
theorem spec_ToneNames.mono_l : ∀ k, (∀ y0 y1 y2 y3 y4, LeO (spec_ToneNames.l0 k y0 y1 y2 y3 y4) (spec_ToneNames.l0 (k + 1) y0 y1 y2 y3 y4))
  | 0 => fun _ _ _ _ _ r h => by simp [spec_ToneNames.l0] at h
  | k + 1 => by
    have ih0 := spec_ToneNames.mono_l k
    · intro y0 y1 y2 y3 y4
      unfold spec_ToneNames.l0
      repeat' first
      | (with_reducible exact ih0 _ _ _ _ _)
      | (with_reducible exact spec_HexAll.mono _ _ _)
      | (with_reducible exact spec_HexSyllable.mono _ _ _ _)
      | (with_reducible exact LeO.refl _)
      | (with_reducible exact LeO.none _)
      | (with_reducible refine LeO.ite ?_ ?_)
      | (with_reducible refine LeO.bind ?_ (fun _ => ?_))
      | exact ih0 _ _ _ _ _
      | exact spec_HexAll.mono _ _ _
      | exact spec_HexSyllable.mono _ _ _ _
      | exact LeO.none _
      | refine LeO.ite ?_ ?_
      | refine LeO.bind ?_ (fun _ => ?_)
theorem spec_ToneNames.mono : ∀ a0 a1 k, LeO (spec_ToneNames.f k a0 a1) (spec_ToneNames.f (k + 1) a0 a1) := by
  intro a0 a1 k
  have ih0 := spec_ToneNames.mono_l k
  unfold spec_ToneNames.f
  repeat' first
      | (with_reducible exact ih0 _ _ _ _ _)
      | (with_reducible exact spec_HexAll.mono _ _ _)
      | (with_reducible exact spec_HexSyllable.mono _ _ _ _)
      | (with_reducible exact LeO.refl _)
      | (with_reducible exact LeO.none _)
      | (with_reducible refine LeO.ite ?_ ?_)
      | (with_reducible refine LeO.bind ?_ (fun _ => ?_))
      | exact ih0 _ _ _ _ _
      | exact spec_HexAll.mono _ _ _
      | exact spec_HexSyllable.mono _ _ _ _
      | exact LeO.none _
      | refine LeO.ite ?_ ?_
      | refine LeO.bind ?_ (fun _ => ?_)
def spec_ToneNames.T8 : Bool × List (List Nat × List Nat) := (true, [([], []), ([], []), ([], []), ([], []), ([2, 3], [2, 3]), ([4], [4]), ([], []), ([5, 6], [5, 6]), ([1, 7], [1, 7]), ([8], [8]), ([0, 9], [0, 9]), ([10, 7, 0, 1, 2, 3, 4, 5, 6, 7, 8, 9, 10], [0, 10])])
def spec_ToneNames.B8 : List Nat := [0, 0, 0, 0, 12, 28, 0, 124, 254, 510, 1023, 2047]
theorem spec_ToneNames.tab8 : rtab .any (opsOf Tryd.f6 8) = spec_ToneNames.T8 := by kernel_rfl
theorem spec_ToneNames.bits8 : waitsOk spec_ToneNames.T8.2 spec_ToneNames.B8 = true := by kernel_rfl
set_option maxHeartbeats 8000000 in
set_option maxRecDepth 100000 in
theorem spec_ToneNames.calls (k : Nat) (a0_0 : Int) (a0_1 : Bool) (r : ByteArray) (w : World) (h : spec_ToneNames.f k a0_0 a0_1 = some r) :
    Calls Tryd.prog 6 #[.agg #[.int .i64 a0_0, .bool a0_1]] w fun e w' => e = .returned (.string r) ∧ Below w.heap.size w w' := by
  have hu25 := Tryd.underlying25
  have HB := Aside0.mk (Below.refl w.heap.size w)
  have H : ((spec_HexAll.f k a0_0 a0_1).bind fun t125 => (spec_ToneNames.l0 k t125 (⟨#[]⟩ : ByteArray) (wrap64 ((t125.length : Int) - 1)) a0_0 a0_1)) = some r := h
  clear h
  replace H := Option.bind_eq_some_iff.mp H
  obtain ⟨t125, A20, H⟩ := H
  replace H : (spec_ToneNames.l0 k t125 (⟨#[]⟩ : ByteArray) (wrap64 ((t125.length : Int) - 1)) a0_0 a0_1) = some r := H
  have A2 := Aside0.mk A20
  clear A20
  have H' := Aside0.mk H
  clear H
  go_enter Tryd.func6, Tryd.ntmps6
  go_wp2_with (first | ((with_reducible refine gate_dst (N := 1) rfl ?_); refine box_event ?hg (N := 1) ?hd (cs := #[.int .i64 a0_0, .bool a0_1]) (t := 25) ?hr ?_; (case hd => rfl); (case hg => rfl); (case hr => first | (go_simp; done) | (go_simp; rfl)); intro gb124 hg w3 hbox hb; have n0_ := Aside0.mk (below_step (by repeat (first | (with_reducible first | exact HB.out | apply below_alloc | apply pw_below_drewN | apply below_drew1) | exact HB.out)) hb); have n1_ := Aside0.mk (hbox); have n2_ := Aside0.mk ((by rw [hg]; exact (below_size (by repeat (first | (with_reducible first | exact HB.out | apply below_alloc | apply pw_below_drewN | apply below_drew1) | exact HB.out))) : w.heap.size ≤ gb124)); have n3_ := Aside0.mk ((by rw [hg]; exact (below_size (by repeat (first | (with_reducible first | exact HB.out | apply below_alloc | apply pw_below_drewN | apply below_drew1) | exact HB.out))) : w.heap.size ≤ gb124)); clear HB; have HB := n0_; have BK124 := n1_; have GW124 := n2_; have GE124 := n3_; clear n0_ n1_ n2_ n3_; clear hb hbox hg; have hcz4_0 : w3.cell? ⟨gb124, 0, none⟩ = some (.int .i64 a0_0) := (blk_cell BK124.out 0).trans rfl; have hcz4_1 : w3.cell? ⟨gb124, 1, none⟩ = some (.bool a0_1) := (blk_cell BK124.out 1).trans rfl; have hfz4_0 := blk_frozen BK124.out 0; have hfz4_1 := blk_frozen BK124.out 1) | ((with_reducible refine gate_callee (f := 9) rfl ?_); refine goesL_ (some 7) rfl rfl Tryd.func9 (by kernel_rfl) rfl #[.agg #[.int .i64 a0_0, .bool a0_1]] rfl (by (try simp only [List.map_toArray, List.map_cons, List.map_nil]); first | done | rfl | (simp only [List.length_drop, List.length_take]; rfl)) ?_; (with_reducible refine (spec_HexAll.calls k a0_0 a0_1 t125 _ A2.out).mono ?_); rintro e w5 ⟨v126, rfl, ho0, hb⟩; refine ⟨_, rfl, ?_⟩; have n0_ := Aside0.mk (Kd.R_lower ho0 (below_size (by repeat (first | (with_reducible first | exact HB.out | apply below_alloc | apply pw_below_drewN | apply below_drew1 | refine below_set ?_ GE124.out) | exact HB.out)))); have n1_ := Aside0.mk (blk_below (g := gb124) (o := .cells #[.int .i64 a0_0, .bool a0_1] 25 (0, 0)) (by (with_reducible repeat (first | refine blk_drewN ?_ _ | refine blk_drew ?_ | refine blk_alloc ?_ _)); exact BK124.out) hb); have n2_ := Aside0.mk (below_step (by repeat (first | (with_reducible first | exact HB.out | apply below_alloc | apply pw_below_drewN | apply below_drew1 | refine below_set ?_ GE124.out) | exact HB.out)) hb); clear BK124; clear HB; have HO127 := n0_; have BK124 := n1_; have HB := n2_; clear n0_ n1_ n2_; (try clear hb); (try clear hb2); (try clear hk); (try clear hi); (try clear ho0); obtain ⟨Ao6, co6, eo6⟩ := Kd.R_slice HO127.out; subst eo6))
  go_loopg [4, 5] k (fun kq v4 v5 w' => ∃ (x4_1 : ByteArray) (x5_1 : Int), v4 = .string x4_1 ∧ v5 = .int .i64 x5_1 ∧ Aside0 (spec_ToneNames.l0 kq t125 x4_1 x5_1 a0_0 a0_1 = some r) ∧ Aside0 (kq ≤ k) ∧ Aside0 (Kd.R (Kd.int .i64) 3 w' w.heap.size (fun _ => True) (.slice Ao6 t125.length co6) t125) ∧ Aside0 (w'.heap[gb124]? = some (.cells #[.int .i64 a0_0, .bool a0_1] 25 (0, 0))) ∧ Aside0 (Below w.heap.size w w'))
  case atStart => exact ⟨((⟨#[]⟩ : ByteArray)), (wrap64 ((t125.length : Int) - 1)), (by first | rfl | (simp; done) | (simp [*]; done)), (by first | rfl | (simp; done) | (simp [*]; done)), H', ⟨Nat.le_refl _⟩, ⟨by (with_reducible repeat (first | apply Kd.R_alloc | apply Kd.R_drewN | apply Kd.R_drew)); exact HO127.out⟩, ⟨by (with_reducible repeat (first | refine blk_drewN ?_ _ | refine blk_drew ?_ | refine blk_alloc ?_ _)); exact BK124.out⟩, ⟨by repeat (first | (with_reducible first | exact HB.out | apply below_alloc | apply pw_below_drewN | apply below_drew1 | refine below_set ?_ GE124.out) | exact HB.out)⟩⟩
  case round =>
    clear H'
    try clear p2
    try clear c6
    try clear p6
    try clear hcz4_0
    try clear hcz4_1
    try clear hfz4_0
    try clear hfz4_1
    obtain ⟨x4_1, x5_1, rfl, rfl, HA, HK1, HO_3, BK124, HB⟩ := hrel
    cases gk with
    | zero => exact absurd HA.out (by simp [spec_ToneNames.l0])
    | succ k1 =>
      have H := HA.out
      clear HA
      simp only [spec_ToneNames.l0] at H
      by_cases c7 : x5_1 ≥ 0
      · rw [if_pos c7] at H
        have c7b0 : decide (0 ≤ x5_1) = true := decide_eq_true c7
        clear c7
        by_cases c8 : x4_1.toList = ([] : List UInt8)
        · rw [if_pos c8] at H
          have c8b0 : (x4_1.toList == ([] : List UInt8)) = true := beq_iff_eq.mpr c8
          have c8b1 : (x4_1.toList != ([] : List UInt8)) = false := bne_eq_false_iff_eq.mpr c8
          clear c8
          obtain ⟨y128, hy128⟩ : ∃ y_ : List ByteArray, y_ = (([(⟨#[117, 116]⟩ : ByteArray), (⟨#[114, 101]⟩ : ByteArray), (⟨#[109, 105]⟩ : ByteArray), (⟨#[102, 97]⟩ : ByteArray), (⟨#[115, 111, 108]⟩ : ByteArray), (⟨#[108, 97]⟩ : ByteArray)] : List ByteArray)) := ⟨_, rfl⟩
          replace H : (if 0 ≤ x5_1 then (if x5_1 < (t125.length : Int) then ((spec_HexSyllable.f k1 (rd t125 x5_1) a0_0 a0_1).bind fun t132 => (if 0 ≤ t132 then (if t132 < (y128.length : Int) then (if x4_1.size + (rdOf ByteArray.empty y128 t132).size ≤ 9223372036854775807 then (spec_ToneNames.l0 k1 t125 (x4_1 ++ (rdOf ByteArray.empty y128 t132)) (wrap64 (x5_1 - 1)) a0_0 a0_1) else (none)) else (none)) else (none))) else (none)) else (none)) = some r := by first | (rw [hy128]; with_reducible exact H) | (have H2_ := (Option.bind_some _ _).symm.trans H; rw [hy128]; with_reducible exact H2_) | (have H2_ := (Option.bind_some _ _).symm.trans H; with_reducible exact H2_) | with_reducible exact H | (rw [hy128]; exact H) | exact H
          have Ny128 := Aside0.mk hy128
          clear hy128
          by_cases c9 : 0 ≤ x5_1
          · rw [if_pos c9] at H
            have c9b0 : decide (0 ≤ x5_1) = true := decide_eq_true c9
            clear c9
            by_cases c10 : x5_1 < (t125.length : Int)
            · rw [if_pos c10] at H
              have c10b0 : decide (x5_1 < (t125.length : Int)) = true := decide_eq_true c10
              clear c10
              replace H := Option.bind_eq_some_iff.mp H
              obtain ⟨t132, A110, H⟩ := H
              replace H : (if 0 ≤ t132 then (if t132 < (y128.length : Int) then (if x4_1.size + (rdOf ByteArray.empty y128 t132).size ≤ 9223372036854775807 then (spec_ToneNames.l0 k1 t125 (x4_1 ++ (rdOf ByteArray.empty y128 t132)) (wrap64 (x5_1 - 1)) a0_0 a0_1) else (none)) else (none)) else (none)) = some r := H
              have A11 := Aside0.mk A110
              clear A110
              by_cases c12 : 0 ≤ t132
              · rw [if_pos c12] at H
                have c12b0 : decide (0 ≤ t132) = true := decide_eq_true c12
                clear c12
                by_cases c13 : t132 < (y128.length : Int)
                · rw [if_pos c13] at H
                  have c13b0 : decide (t132 < (y128.length : Int)) = true := decide_eq_true c13
                  clear c13
                  by_cases c14 : x4_1.size + (rdOf ByteArray.empty y128 t132).size ≤ 9223372036854775807
                  · rw [if_pos c14] at H
                    have c14b0 := eq_true c14
                    have c14b1 : decide (x4_1.size + (rdOf ByteArray.empty y128 t132).size ≤ 9223372036854775807) = true := decide_eq_true c14
                    try have c14b2 : (9223372036854775807 < x4_1.size + (rdOf ByteArray.empty y128 t132).size) = False := eq_false (Nat.not_lt.2 c14)
                    have H' := Aside0.mk H
                    clear H
                    try go_wp2
                    have pi133 : (0 ≤ (t132 : Int)) = True := eq_true (of_decide_eq_true (by first | (with_reducible assumption) | assumption))
                    have qi133 : (t132 < (y128.length : Int)) = True := eq_true (of_decide_eq_true (by first | (with_reducible assumption) | assumption))
                    have n0_ := Aside0.mk (Kd.R_drew HO_3.out)
                    have n1_ := Aside0.mk (blk_drew BK124.out)
                    have n2_ := Aside0.mk (below_drew1 HB.out)
                    clear HO_3
                    clear BK124
                    clear HB
                    have HO_3 := n0_
                    have BK124 := n1_
                    have HB := n2_
                    clear n0_ n1_ n2_
                    have p131 : 0 ≤ (x5_1 : Int) := of_decide_eq_true (by first | (with_reducible assumption) | assumption)
                    have q131 : x5_1 < (t125.length : Int) := of_decide_eq_true (by first | (with_reducible assumption) | assumption)
                    obtain ⟨ad131, e131, hx131_0⟩ := Kd.at_int (Kd.R_reads' HO_3.out).2.2 x5_1 p131 q131
                    cases e131
                    replace p131 := eq_true p131
                    replace q131 := eq_true q131
                    refine start_ (n := 12) (S := fun w' => True) (ds := []) #[false, false, false, false, false, false, false, false, false, false, false, false] (by kernel_rfl) rfl rfl trivial (fun hHeld => ?_); refine with_tabW spec_ToneNames.tab8 spec_ToneNames.bits8 (fun HT_ HW_ => ?_)
                    generalize wr.drew = w15 at HO_3 BK124 HB hx131_0 hHeld ⊢
                    refine pure_ (i := 0) (N := some 19) (v := ?_) (a' := ?_) #[true, false, false, false, false, false, false, false, false, false, false, false] rfl rfl (any_of HT_.out (by kernel_rfl)) (fun _ _ _ h => h) (Or.inl ⟨by rfl, ?_⟩) ?_ ?_
                    rotate_left
                    · intro w'
                      go_simp
                      with_reducible rfl
                    rotate_left
                    · simp only [Act.put, List.setIfInBounds_toArray, List.set_cons_zero, List.set_cons_succ, i64_w, i32_w]
                      rfl
                    refine pure_ (i := 2) (N := some 21) (v := ?_) (a' := ?_) #[true, false, true, false, false, false, false, false, false, false, false, false] rfl rfl (any_of HT_.out (by kernel_rfl)) (fun _ _ _ h => h) (Or.inl ⟨by rfl, ?_⟩) ?_ ?_
                    rotate_left
                    · intro w'
                      go_simp
                      with_reducible rfl
                    rotate_left
                    · simp only [Act.put, List.setIfInBounds_toArray, List.set_cons_zero, List.set_cons_succ, i64_w, i32_w]
                      rfl
                    refine pure_ (i := 3) (N := some 22) (v := ?_) (a' := ?_) #[true, false, true, true, false, false, false, false, false, false, false, false] rfl rfl (any_of HT_.out (by kernel_rfl)) (fun _ _ _ h => h) (Or.inl ⟨by rfl, ?_⟩) ?_ ?_
                    rotate_left
                    · intro w'
                      go_simp
                      with_reducible rfl
                    rotate_left
                    · simp only [Act.put, List.setIfInBounds_toArray, List.set_cons_zero, List.set_cons_succ, i64_w, i32_w]
                      rfl
                    refine inv_at [1, 4, 5, 6, 7, 8, 9, 10, 11] (fun a0_ b a w' => ∃ (v129 : Value) (adz_v129 : Addr) (m8_ : Value), a = putSel a0_ b [(1, 20, v129), (4, 23, .pointer (some (ad131.add (x5_1).toNat))), (5, 24, .int .i64 (rd t125 x5_1)), (6, 25, .agg #[.int .i64 a0_0, .bool a0_1]), (7, 26, .int .i64 t132), (8, 27, m8_), (9, 28, .string (rdOf ByteArray.empty y128 t132)), (10, 29, .string (x4_1 ++ (rdOf ByteArray.empty y128 t132))), (11, 4, .string (x4_1 ++ (rdOf ByteArray.empty y128 t132)))] ∧ (Kd.R (Kd.int .i64) 3 w' w.heap.size (fun _ => True) (.slice (some ad131) t125.length co6) t125) ∧ (w'.heap[gb124]? = some (.cells #[.int .i64 a0_0, .bool a0_1] 25 (0, 0))) ∧ (Below w.heap.size w w') ∧ (b 1 = true → Kd.R Kd.string 9 w' w.heap.size (fun _ => True) v129 y128) ∧ (b 1 = true → ∃ c_, (v129 : Value) = .slice (some adz_v129) y128.length c_) ∧ (b 8 = true → (m8_ : Value) = .pointer (some (adz_v129.add (t132).toNat)))) HT_.out HW_.out (by kernel_rfl) (by kernel_rfl) ?_ ?_ ?_
                    · exact ⟨.bool false, ⟨0, 0, none⟩, .bool false, by simp only [putSel, Bool.false_eq_true, if_false], HO_3.out, BK124.out, HB.out, fun h_ => absurd h_ (by decide), fun h_ => absurd h_ (by decide), fun h_ => absurd h_ (by decide)⟩
                    · skip
                      clear BK124 HB HO_3
                      refine steps_cons ?_ ?_
                      · rintro b a w' ⟨v129, adz_v129, m8_, ha, Q_HO_3, Q_BK124, Q_HB, Q_HO130, Q_HA_HO130, Q_X8_⟩ hb_ hon hoff
                        refine ⟨_, rfl, fun K hK => ?_⟩
                        replace ha := Aside0.mk ha
                        have HO_3 := Aside0.mk Q_HO_3
                        have BK124 := Aside0.mk Q_BK124
                        have HB := Aside0.mk Q_HB
                        refine Kd.R_lit_step Kd.string _ 9 ?hg (N := 20) ?hd (xs := ([(⟨#[117, 116]⟩ : ByteArray), (⟨#[114, 101]⟩ : ByteArray), (⟨#[109, 105]⟩ : ByteArray), (⟨#[102, 97]⟩ : ByteArray), (⟨#[115, 111, 108]⟩ : ByteArray), (⟨#[108, 97]⟩ : ByteArray)] : List ByteArray)) (inner := [.string (⟨#[117, 116]⟩ : ByteArray), .string (⟨#[114, 101]⟩ : ByteArray), .string (⟨#[109, 105]⟩ : ByteArray), .string (⟨#[102, 97]⟩ : ByteArray), .string (⟨#[115, 111, 108]⟩ : ByteArray), .string (⟨#[108, 97]⟩ : ByteArray)]) (ok := fun _ => True) (okp := fun _ => True) ?hr ?hp (fun _ hk => hk) trivial (Below.refl _ _) (Nat.le_refl _) (by simp) ?_; (case hd => rfl); (case hg => rfl); (case hr => first | (go_simp; done) | (go_simp; rfl)); (case hp => exact (Reps.one (show Kd.M Kd.string _ _ _ (⟨#[117, 116]⟩ : ByteArray) [.string (⟨#[117, 116]⟩ : ByteArray)] from rfl) (Reps.one (show Kd.M Kd.string _ _ _ (⟨#[114, 101]⟩ : ByteArray) [.string (⟨#[114, 101]⟩ : ByteArray)] from rfl) (Reps.one (show Kd.M Kd.string _ _ _ (⟨#[109, 105]⟩ : ByteArray) [.string (⟨#[109, 105]⟩ : ByteArray)] from rfl) (Reps.one (show Kd.M Kd.string _ _ _ (⟨#[102, 97]⟩ : ByteArray) [.string (⟨#[102, 97]⟩ : ByteArray)] from rfl) (Reps.one (show Kd.M Kd.string _ _ _ (⟨#[115, 111, 108]⟩ : ByteArray) [.string (⟨#[115, 111, 108]⟩ : ByteArray)] from rfl) (Reps.one (show Kd.M Kd.string _ _ _ (⟨#[108, 97]⟩ : ByteArray) [.string (⟨#[108, 97]⟩ : ByteArray)] from rfl) (Reps.none _ _))))))))
                        intro v129 w16 ho17 hb hg_ hnew_
                        clear hg_ hnew_
                        (first | rw [← Ny128.out] at ho17 | (simp only [Int.reduceToNat] at ho17; rw [← Ny128.out] at ho17))
                        have n0_ := Aside0.mk (Kd.R_below (by (with_reducible repeat (first | apply Kd.R_alloc | apply Kd.R_drewN | apply Kd.R_drew)); exact HO_3.out) hb)
                        have n1_ := Aside0.mk (Kd.R_lower ho17 (below_size (by repeat (first | (with_reducible first | exact HB.out | apply below_alloc | apply pw_below_drewN | apply below_drew1 | refine below_set ?_ GE124.out) | exact HB.out))))
                        have n2_ := Aside0.mk (blk_below (g := gb124) (o := .cells #[.int .i64 a0_0, .bool a0_1] 25 (0, 0)) (by (with_reducible repeat (first | refine blk_drewN ?_ _ | refine blk_drew ?_ | refine blk_alloc ?_ _)); exact BK124.out) hb)
                        have n3_ := Aside0.mk (below_step (by repeat (first | (with_reducible first | exact HB.out | apply below_alloc | apply pw_below_drewN | apply below_drew1 | refine below_set ?_ GE124.out) | exact HB.out)) hb)
                        clear HO_3
                        clear BK124
                        clear HB
                        have HO_3 := n0_
                        have HO130 := n1_
                        have BK124 := n2_
                        have HB := n3_
                        clear n0_ n1_ n2_ n3_
                        clear hb ho17
                        obtain ⟨Ao18, co18, eo18⟩ := Kd.R_slice HO130.out
                        subst eo18
                        obtain ⟨ado18, fo18, _⟩ := Kd.at_string (Kd.R_reads' HO130.out).2.2 0 (by decide) (by rw [Ny128.out]; simp)
                        cases fo18
                        refine hK.out _ _ ⟨.slice (some ado18) y128.length co18, ado18, m8_, (by rw [ha.out]; exact putSel_upk 0 hb_ rfl rfl rfl), (by (with_reducible repeat (first | apply Kd.R_alloc | apply Kd.R_drewN | apply Kd.R_drew)); exact HO_3.out), (by (with_reducible repeat (first | refine blk_drewN ?_ _ | refine blk_drew ?_ | refine blk_alloc ?_ _)); exact BK124.out), (by repeat (first | (with_reducible first | exact HB.out | apply below_alloc | apply pw_below_drewN | apply below_drew1 | refine below_set ?_ GE124.out) | exact HB.out)), fun _ => (by (with_reducible repeat (first | apply Kd.R_alloc | apply Kd.R_drewN | apply Kd.R_drew)); exact HO130.out), fun _ => ⟨_, rfl⟩, fun h0_ => absurd ((hoff 8 (by kernel_rfl)).symm.trans h0_) (by decide)⟩
                      refine steps_cons ?_ ?_
                      · rintro b a w' ⟨v129, adz_v129, m8_, ha, Q_HO_3, Q_BK124, Q_HB, Q_HO130, Q_HA_HO130, Q_X8_⟩ hb_ hon hoff
                        refine ⟨_, rfl, fun K hK => ?_⟩
                        have e21 : a.tmps[21]? = some (.slice (some ad131) t125.length co6) := by rw [ha]; exact (putSel_off rfl).trans rfl
                        have e22 : a.tmps[22]? = some (.int .i64 x5_1) := by rw [ha]; exact (putSel_off rfl).trans rfl
                        replace ha := Aside0.mk ha
                        have HO_3 := Aside0.mk Q_HO_3
                        have BK124 := Aside0.mk Q_BK124
                        have HB := Aside0.mk Q_HB
                        refine value_ (w1 := w') (v := .pointer (some (ad131.add (x5_1).toNat))) (by rfl) rfl ?_ ?_
                        · go_simp
                          (try simp only [i64_w])
                          try rfl
                        refine hK.out _ _ ⟨v129, adz_v129, m8_, (by rw [ha.out]; exact putSel_upk 1 hb_ rfl rfl rfl), Q_HO_3, Q_BK124, Q_HB, Q_HO130, Q_HA_HO130, fun h0_ => absurd ((hoff 8 (by kernel_rfl)).symm.trans h0_) (by decide)⟩
                      refine steps_cons ?_ ?_
                      · rintro b a w' ⟨v129, adz_v129, m8_, ha, Q_HO_3, Q_BK124, Q_HB, Q_HO130, Q_HA_HO130, Q_X8_⟩ hb_ hon hoff
                        refine ⟨_, rfl, fun K hK => ?_⟩
                        have e23 : a.tmps[23]? = some (.pointer (some (ad131.add (x5_1).toNat))) := by rw [ha]; exact putSel_on (e := (4, 23, .pointer (some (ad131.add (x5_1).toNat)))) 1 rfl rfl (hon 4 (by kernel_rfl)) rfl
                        replace ha := Aside0.mk ha
                        have HO_3 := Aside0.mk Q_HO_3
                        have BK124 := Aside0.mk Q_BK124
                        have HB := Aside0.mk Q_HB
                        obtain ⟨ad131_z, e131_z, hx131_0_z⟩ := Kd.at_int (Kd.R_reads' HO_3.out).2.2 x5_1 (of_eq_true p131) (of_eq_true q131)
                        cases e131_z
                        have hs0_ : w'.cell? (ad131.add (x5_1).toNat) = some (.int .i64 (rd t125 x5_1)) := (by first | exact hx131_0_z | (have h_ := hx131_0_z; (try simp only [Int.reduceToNat, Nat.zero_mul, Nat.reduceMul, Nat.reduceEqDiff, Go.Addr.add, ↓reduceIte, Addr.add_zero'] at h_); exact h_))
                        refine value_ (w1 := w') (v := .int .i64 (rd t125 x5_1)) (by rfl) rfl ?_ ?_
                        · go_simp
                          (try simp only [i64_w])
                          try rfl
                        refine hK.out _ _ ⟨v129, adz_v129, m8_, (by rw [ha.out]; exact putSel_upk 2 hb_ rfl rfl rfl), Q_HO_3, Q_BK124, Q_HB, Q_HO130, Q_HA_HO130, fun h0_ => absurd ((hoff 8 (by kernel_rfl)).symm.trans h0_) (by decide)⟩
                      refine steps_cons ?_ ?_
                      · rintro b a w' ⟨v129, adz_v129, m8_, ha, Q_HO_3, Q_BK124, Q_HB, Q_HO130, Q_HA_HO130, Q_X8_⟩ hb_ hon hoff
                        refine ⟨_, rfl, fun K hK => ?_⟩
                        have e1 : a.tmps[1]? = some (.pointer (some ⟨gb124, 0, none⟩)) := by rw [ha]; exact (putSel_off rfl).trans rfl
                        replace ha := Aside0.mk ha
                        have HO_3 := Aside0.mk Q_HO_3
                        have BK124 := Aside0.mk Q_BK124
                        have HB := Aside0.mk Q_HB
                        have hc0_ : w'.cell? ⟨gb124, 0, none⟩ = some (.int .i64 a0_0) := (blk_cell BK124.out 0).trans rfl
                        have hc1_ : w'.cell? ⟨gb124, 1, none⟩ = some (.bool a0_1) := (blk_cell BK124.out 1).trans rfl
                        refine value_ (w1 := w') (v := .agg #[.int .i64 a0_0, .bool a0_1]) (by rfl) rfl ?_ ?_
                        · go_simp
                          (try simp only [i64_w])
                          try rfl
                        refine hK.out _ _ ⟨v129, adz_v129, m8_, (by rw [ha.out]; exact putSel_upk 3 hb_ rfl rfl rfl), Q_HO_3, Q_BK124, Q_HB, Q_HO130, Q_HA_HO130, fun h0_ => absurd ((hoff 8 (by kernel_rfl)).symm.trans h0_) (by decide)⟩
                      refine steps_cons ?_ ?_
                      · rintro b a w' ⟨v129, adz_v129, m8_, ha, Q_HO_3, Q_BK124, Q_HB, Q_HO130, Q_HA_HO130, Q_X8_⟩ hb_ hon hoff
                        refine ⟨_, rfl, fun K hK => ?_⟩
                        have e24 : a.tmps[24]? = some (.int .i64 (rd t125 x5_1)) := by rw [ha]; exact putSel_on (e := (5, 24, .int .i64 (rd t125 x5_1))) 2 rfl rfl (hon 5 (by kernel_rfl)) rfl
                        have e25 : a.tmps[25]? = some (.agg #[.int .i64 a0_0, .bool a0_1]) := by rw [ha]; exact putSel_on (e := (6, 25, .agg #[.int .i64 a0_0, .bool a0_1])) 3 rfl rfl (hon 6 (by kernel_rfl)) rfl
                        replace ha := Aside0.mk ha
                        have HO_3 := Aside0.mk Q_HO_3
                        have BK124 := Aside0.mk Q_BK124
                        have HB := Aside0.mk Q_HB
                        refine goes_ Tryd.func19 (by kernel_rfl) rfl #[.int .i64 (rd t125 x5_1), .agg #[.int .i64 a0_0, .bool a0_1]] (by rfl) rfl rfl (by first | (simp only [List.map_toArray, List.map_cons, List.map_nil, Act.eval, Array.getD_eq_getD_getElem?, Option.getD_some, e24, e25]; done) | (simp only [List.map_toArray, List.map_cons, List.map_nil, Act.eval, Array.getD_eq_getD_getElem?, Option.getD_some, e24, e25]; rfl)) ?_
                        with_reducible refine (spec_HexSyllable.calls k1 (rd t125 x5_1) a0_0 a0_1 t132 _ A11.out).mono ?_
                        rintro e w16 ⟨rfl, hb⟩
                        refine ⟨_, rfl, ?_⟩
                        have n0_ := Aside0.mk (Kd.R_below (by (with_reducible repeat (first | apply Kd.R_alloc | apply Kd.R_drewN | apply Kd.R_drew)); exact HO_3.out) hb)
                        have n1_ := Aside0.mk (blk_below (g := gb124) (o := .cells #[.int .i64 a0_0, .bool a0_1] 25 (0, 0)) (by (with_reducible repeat (first | refine blk_drewN ?_ _ | refine blk_drew ?_ | refine blk_alloc ?_ _)); exact BK124.out) hb)
                        have n2_ := Aside0.mk (below_step (by repeat (first | (with_reducible first | exact HB.out | apply below_alloc | apply pw_below_drewN | apply below_drew1 | refine below_set ?_ GE124.out) | exact HB.out)) hb)
                        have z_HO130 := fun (h0_ : b 1 = true) => (show Kd.R Kd.string 9 w16 w.heap.size (fun _ => True) v129 y128 from by first | exact (Kd.R_below (by (with_reducible repeat (first | apply Kd.R_alloc | apply Kd.R_drewN | apply Kd.R_drew)); exact (Q_HO130 h0_)) hb) | exact Kd.R_mono (Kd.R_below (by (with_reducible repeat (first | apply Kd.R_alloc | apply Kd.R_drewN | apply Kd.R_drew)); exact (Q_HO130 h0_)) hb) (fun _ h_ => by first | trivial | exact h_ | exact h_.1))
                        clear HO_3
                        clear BK124
                        clear HB
                        have HO_3 := n0_
                        have BK124 := n1_
                        have HB := n2_
                        clear n0_ n1_ n2_
                        (try clear hb)
                        (try clear hb2)
                        (try clear hk)
                        (try clear hi)
                        refine hK.out _ _ ⟨v129, adz_v129, m8_, (by rw [ha.out]; exact putSel_upk 4 hb_ rfl rfl rfl), (by (with_reducible repeat (first | apply Kd.R_alloc | apply Kd.R_drewN | apply Kd.R_drew)); exact HO_3.out), (by (with_reducible repeat (first | refine blk_drewN ?_ _ | refine blk_drew ?_ | refine blk_alloc ?_ _)); exact BK124.out), (by repeat (first | (with_reducible first | exact HB.out | apply below_alloc | apply pw_below_drewN | apply below_drew1 | refine below_set ?_ GE124.out) | exact HB.out)), z_HO130, Q_HA_HO130, fun h0_ => absurd ((hoff 8 (by kernel_rfl)).symm.trans h0_) (by decide)⟩
                      refine steps_cons ?_ ?_
                      · rintro b a w' ⟨v129, adz_v129, m8_, ha, Q_HO_3, Q_BK124, Q_HB, Q_HO130, Q_HA_HO130, Q_X8_⟩ hb_ hon hoff
                        refine ⟨_, rfl, fun K hK => ?_⟩
                        have e20 : a.tmps[20]? = some (v129) := by rw [ha]; exact putSel_on (e := (1, 20, v129)) 0 rfl rfl (hon 1 (by kernel_rfl)) rfl
                        have e26 : a.tmps[26]? = some (.int .i64 t132) := by rw [ha]; exact putSel_on (e := (7, 26, .int .i64 t132)) 4 rfl rfl (hon 7 (by kernel_rfl)) rfl
                        replace ha := Aside0.mk ha
                        have HO_3 := Aside0.mk Q_HO_3
                        have BK124 := Aside0.mk Q_BK124
                        have HB := Aside0.mk Q_HB
                        have HO130 := Aside0.mk (Q_HO130 (hon 1 (by kernel_rfl)))
                        have HA_HO130 := Aside0.mk (Q_HA_HO130 (hon 1 (by kernel_rfl)))
                        obtain ⟨c_, hv_⟩ := HA_HO130.out
                        rw [hv_] at e20
                        refine value_ (w1 := w') (v := .pointer (some (adz_v129.add (t132).toNat))) (by rfl) rfl ?_ ?_
                        · go_simp
                          (try simp only [i64_w])
                          try rfl
                        refine hK.out _ _ ⟨v129, adz_v129, (.pointer (some (adz_v129.add (t132).toNat))), (by rw [ha.out]; exact putSel_upk 5 hb_ rfl rfl rfl), Q_HO_3, Q_BK124, Q_HB, Q_HO130, Q_HA_HO130, fun _ => rfl⟩
                      refine steps_cons ?_ ?_
                      · rintro b a w' ⟨v129, adz_v129, m8_, ha, Q_HO_3, Q_BK124, Q_HB, Q_HO130, Q_HA_HO130, Q_X8_⟩ hb_ hon hoff
                        refine ⟨_, rfl, fun K hK => ?_⟩
                        have e27 : a.tmps[27]? = some (m8_) := by rw [ha]; exact putSel_on (e := (8, 27, m8_)) 5 rfl rfl (hon 8 (by kernel_rfl)) rfl
                        rw [Q_X8_ (hon 8 (by kernel_rfl))] at e27
                        replace ha := Aside0.mk ha
                        have HO_3 := Aside0.mk Q_HO_3
                        have BK124 := Aside0.mk Q_BK124
                        have HB := Aside0.mk Q_HB
                        have HO130 := Aside0.mk (Q_HO130 (hon 1 (by kernel_rfl)))
                        have HA_HO130 := Aside0.mk (Q_HA_HO130 (hon 1 (by kernel_rfl)))
                        obtain ⟨c_, hv_⟩ := HA_HO130.out
                        have hF_ := HO130.out
                        rw [hv_] at hF_
                        obtain ⟨ad_, ea_, hx_⟩ := Kd.at_string (Kd.R_reads' hF_).2.2 t132 (of_eq_true pi133) (of_eq_true qi133)
                        cases ea_
                        refine value_ (w1 := w') (v := .string (rdOf ByteArray.empty y128 t132)) (by rfl) rfl ?_ ?_
                        · go_simp
                          (try simp only [i64_w])
                          try rfl
                        refine hK.out _ _ ⟨v129, adz_v129, m8_, (by rw [ha.out]; exact putSel_upk 6 hb_ rfl rfl rfl), Q_HO_3, Q_BK124, Q_HB, Q_HO130, Q_HA_HO130, Q_X8_⟩
                      refine steps_cons ?_ ?_
                      · rintro b a w' ⟨v129, adz_v129, m8_, ha, Q_HO_3, Q_BK124, Q_HB, Q_HO130, Q_HA_HO130, Q_X8_⟩ hb_ hon hoff
                        refine ⟨_, rfl, fun K hK => ?_⟩
                        have e19 : a.tmps[19]? = some (.string x4_1) := by rw [ha]; exact (putSel_off rfl).trans rfl
                        have e28 : a.tmps[28]? = some (.string (rdOf ByteArray.empty y128 t132)) := by rw [ha]; exact putSel_on (e := (9, 28, .string (rdOf ByteArray.empty y128 t132))) 6 rfl rfl (hon 9 (by kernel_rfl)) rfl
                        replace ha := Aside0.mk ha
                        have HO_3 := Aside0.mk Q_HO_3
                        have BK124 := Aside0.mk Q_BK124
                        have HB := Aside0.mk Q_HB
                        have HO130 := Aside0.mk (Q_HO130 (hon 1 (by kernel_rfl)))
                        have HA_HO130 := Aside0.mk (Q_HA_HO130 (hon 1 (by kernel_rfl)))
                        refine value_ (w1 := w') (v := .string (x4_1 ++ (rdOf ByteArray.empty y128 t132))) (by rfl) rfl ?_ ?_
                        · go_simp
                          (try simp only [i64_w])
                          try rfl
                        refine hK.out _ _ ⟨v129, adz_v129, m8_, (by rw [ha.out]; exact putSel_upk 7 hb_ rfl rfl rfl), Q_HO_3, Q_BK124, Q_HB, Q_HO130, Q_HA_HO130, Q_X8_⟩
                      refine steps_cons ?_ ?_
                      · rintro b a w' ⟨v129, adz_v129, m8_, ha, Q_HO_3, Q_BK124, Q_HB, Q_HO130, Q_HA_HO130, Q_X8_⟩ hb_ hon hoff
                        refine ⟨_, rfl, fun K hK => ?_⟩
                        have e29 : a.tmps[29]? = some (.string (x4_1 ++ (rdOf ByteArray.empty y128 t132))) := by rw [ha]; exact putSel_on (e := (10, 29, .string (x4_1 ++ (rdOf ByteArray.empty y128 t132)))) 7 rfl rfl (hon 10 (by kernel_rfl)) rfl
                        replace ha := Aside0.mk ha
                        have HO_3 := Aside0.mk Q_HO_3
                        have BK124 := Aside0.mk Q_BK124
                        have HB := Aside0.mk Q_HB
                        have HO130 := Aside0.mk (Q_HO130 (hon 1 (by kernel_rfl)))
                        have HA_HO130 := Aside0.mk (Q_HA_HO130 (hon 1 (by kernel_rfl)))
                        refine value_ (w1 := w') (v := .string (x4_1 ++ (rdOf ByteArray.empty y128 t132))) (by rfl) rfl ?_ ?_
                        · go_simp
                          (try simp only [i64_w])
                          try rfl
                        refine hK.out _ _ ⟨v129, adz_v129, m8_, (by rw [ha.out]; exact putSel_upk 8 hb_ rfl rfl rfl), Q_HO_3, Q_BK124, Q_HB, Q_HO130, Q_HA_HO130, Q_X8_⟩
                      exact steps_nil
                    rintro b a w20 hall ⟨v129, adz_v129, m8_, ha, Q_HO_3, Q_BK124, Q_HB, Q_HO130, Q_HA_HO130, Q_X8_⟩
                    clear BK124 HB HO_3
                    have hb1_ := hall 1 (by kernel_rfl)
                    have hb4_ := hall 4 (by kernel_rfl)
                    have hb5_ := hall 5 (by kernel_rfl)
                    have hb6_ := hall 6 (by kernel_rfl)
                    have hb7_ := hall 7 (by kernel_rfl)
                    have hb8_ := hall 8 (by kernel_rfl)
                    have hb9_ := hall 9 (by kernel_rfl)
                    have hb10_ := hall 10 (by kernel_rfl)
                    have hb11_ := hall 11 (by kernel_rfl)
                    subst ha
                    obtain rfl := Q_X8_ hb8_
                    simp only [putSel, hb1_, hb4_, hb5_, hb6_, hb7_, hb8_, hb9_, hb10_, hb11_, if_true, Act.put, List.setIfInBounds_toArray, List.set_cons_zero, List.set_cons_succ]
                    have HO_3 := Aside0.mk Q_HO_3
                    clear Q_HO_3
                    have BK124 := Aside0.mk Q_BK124
                    clear Q_BK124
                    have HB := Aside0.mk Q_HB
                    clear Q_HB
                    have HO130 := Aside0.mk (Q_HO130 hb1_)
                    clear Q_HO130
                    have HA_HO130 := Aside0.mk (Q_HA_HO130 hb1_)
                    clear Q_HA_HO130
                    clear hall hb1_ hb4_ hb5_ hb6_ hb7_ hb8_ hb9_ hb10_ hb11_
                    obtain ⟨co21, eo21⟩ := HA_HO130.out
                    clear HA_HO130
                    subst eo21
                    try go_wp2
                    go_roundg k1
                    case measure => have := HK1.out; omega
                    case rel => exact ⟨(x4_1 ++ (rdOf ByteArray.empty y128 t132)), (wrap64 (x5_1 - 1)), (by first | rfl | (simp; done) | (simp [*]; done)), (by first | rfl | (simp; done) | (simp [*]; done)), H', ⟨by have := HK1.out; omega⟩, ⟨by (with_reducible repeat (first | apply Kd.R_alloc | apply Kd.R_drewN | apply Kd.R_drew)); exact HO_3.out⟩, ⟨by (with_reducible repeat (first | refine blk_drewN ?_ _ | refine blk_drew ?_ | refine blk_alloc ?_ _)); exact BK124.out⟩, ⟨by repeat (first | (with_reducible first | exact HB.out | apply below_alloc | apply pw_below_drewN | apply below_drew1 | refine below_set ?_ GE124.out) | exact HB.out)⟩⟩
                  · rw [if_neg c14] at H
                    exact absurd H (by simp)
                · rw [if_neg c13] at H
                  exact absurd H (by simp)
              · rw [if_neg c12] at H
                exact absurd H (by simp)
            · rw [if_neg c10] at H
              exact absurd H (by simp)
          · rw [if_neg c9] at H
            exact absurd H (by simp)
        · rw [if_neg c8] at H
          have c8b0 : (x4_1.toList == ([] : List UInt8)) = false := beq_eq_false_iff_ne.mpr c8
          have c8b1 : (x4_1.toList != ([] : List UInt8)) = true := bne_iff_ne.mpr c8
          by_cases c22 : x4_1.size + 1 ≤ 9223372036854775807
          · rw [if_pos c22] at H
            have c22b0 := eq_true c22
            have c22b1 : decide (x4_1.size + 1 ≤ 9223372036854775807) = true := decide_eq_true c22
            try have c22b2 : (9223372036854775807 < x4_1.size + 1) = False := eq_false (Nat.not_lt.2 c22)
            obtain ⟨y134, hy134⟩ : ∃ y_ : List ByteArray, y_ = (([(⟨#[117, 116]⟩ : ByteArray), (⟨#[114, 101]⟩ : ByteArray), (⟨#[109, 105]⟩ : ByteArray), (⟨#[102, 97]⟩ : ByteArray), (⟨#[115, 111, 108]⟩ : ByteArray), (⟨#[108, 97]⟩ : ByteArray)] : List ByteArray)) := ⟨_, rfl⟩
            replace H : (if 0 ≤ x5_1 then (if x5_1 < (t125.length : Int) then ((spec_HexSyllable.f k1 (rd t125 x5_1) a0_0 a0_1).bind fun t138 => (if 0 ≤ t138 then (if t138 < (y134.length : Int) then (if (x4_1 ++ (⟨#[32]⟩ : ByteArray)).size + (rdOf ByteArray.empty y134 t138).size ≤ 9223372036854775807 then (spec_ToneNames.l0 k1 t125 ((x4_1 ++ (⟨#[32]⟩ : ByteArray)) ++ (rdOf ByteArray.empty y134 t138)) (wrap64 (x5_1 - 1)) a0_0 a0_1) else (none)) else (none)) else (none))) else (none)) else (none)) = some r := by first | (rw [hy134]; with_reducible exact H) | (have H2_ := (Option.bind_some _ _).symm.trans H; rw [hy134]; with_reducible exact H2_) | (have H2_ := (Option.bind_some _ _).symm.trans H; with_reducible exact H2_) | with_reducible exact H | (rw [hy134]; exact H) | exact H
            have Ny134 := Aside0.mk hy134
            clear hy134
            by_cases c23 : 0 ≤ x5_1
            · rw [if_pos c23] at H
              have c23b0 : decide (0 ≤ x5_1) = true := decide_eq_true c23
              clear c23
              by_cases c24 : x5_1 < (t125.length : Int)
              · rw [if_pos c24] at H
                have c24b0 : decide (x5_1 < (t125.length : Int)) = true := decide_eq_true c24
                clear c24
                replace H := Option.bind_eq_some_iff.mp H
                obtain ⟨t138, A250, H⟩ := H
                replace H : (if 0 ≤ t138 then (if t138 < (y134.length : Int) then (if (x4_1 ++ (⟨#[32]⟩ : ByteArray)).size + (rdOf ByteArray.empty y134 t138).size ≤ 9223372036854775807 then (spec_ToneNames.l0 k1 t125 ((x4_1 ++ (⟨#[32]⟩ : ByteArray)) ++ (rdOf ByteArray.empty y134 t138)) (wrap64 (x5_1 - 1)) a0_0 a0_1) else (none)) else (none)) else (none)) = some r := H
                have A25 := Aside0.mk A250
                clear A250
                by_cases c26 : 0 ≤ t138
                · rw [if_pos c26] at H
                  have c26b0 : decide (0 ≤ t138) = true := decide_eq_true c26
                  clear c26
                  by_cases c27 : t138 < (y134.length : Int)
                  · rw [if_pos c27] at H
                    have c27b0 : decide (t138 < (y134.length : Int)) = true := decide_eq_true c27
                    clear c27
                    by_cases c28 : (x4_1 ++ (⟨#[32]⟩ : ByteArray)).size + (rdOf ByteArray.empty y134 t138).size ≤ 9223372036854775807
                    · rw [if_pos c28] at H
                      have c28b0 := eq_true c28
                      have c28s : x4_1.size + 1 + (rdOf ByteArray.empty y134 t138).size ≤ 9223372036854775807 := by (have h0_ := c28; rw [ByteArray.size_append] at h0_; exact h0_)
                      have c28e := eq_true c28s
                      have c28b1 : decide ((x4_1 ++ (⟨#[32]⟩ : ByteArray)).size + (rdOf ByteArray.empty y134 t138).size ≤ 9223372036854775807) = true := decide_eq_true c28
                      try have c28b2 : (9223372036854775807 < (x4_1 ++ (⟨#[32]⟩ : ByteArray)).size + (rdOf ByteArray.empty y134 t138).size) = False := eq_false (Nat.not_lt.2 c28)
                      have H' := Aside0.mk H
                      clear H
                      try go_wp2
                      have pi139 : (0 ≤ (t138 : Int)) = True := eq_true (of_decide_eq_true (by first | (with_reducible assumption) | assumption))
                      have qi139 : (t138 < (y134.length : Int)) = True := eq_true (of_decide_eq_true (by first | (with_reducible assumption) | assumption))
                      have n0_ := Aside0.mk (Kd.R_drew HO_3.out)
                      have n1_ := Aside0.mk (blk_drew BK124.out)
                      have n2_ := Aside0.mk (below_drew1 HB.out)
                      clear HO_3
                      clear BK124
                      clear HB
                      have HO_3 := n0_
                      have BK124 := n1_
                      have HB := n2_
                      clear n0_ n1_ n2_
                      have p137 : 0 ≤ (x5_1 : Int) := of_decide_eq_true (by first | (with_reducible assumption) | assumption)
                      have q137 : x5_1 < (t125.length : Int) := of_decide_eq_true (by first | (with_reducible assumption) | assumption)
                      obtain ⟨ad137, e137, hx137_0⟩ := Kd.at_int (Kd.R_reads' HO_3.out).2.2 x5_1 p137 q137
                      cases e137
                      replace p137 := eq_true p137
                      replace q137 := eq_true q137
                      refine start_ (n := 12) (S := fun w' => True) (ds := []) #[false, false, false, false, false, false, false, false, false, false, false, false] (by kernel_rfl) rfl rfl trivial (fun hHeld => ?_); refine with_tabW spec_ToneNames.tab8 spec_ToneNames.bits8 (fun HT_ HW_ => ?_)
                      generalize wr.drew = w29 at HO_3 BK124 HB hx137_0 hHeld ⊢
                      refine pure_ (i := 0) (N := some 19) (v := ?_) (a' := ?_) #[true, false, false, false, false, false, false, false, false, false, false, false] rfl rfl (any_of HT_.out (by kernel_rfl)) (fun _ _ _ h => h) (Or.inl ⟨by rfl, ?_⟩) ?_ ?_
                      rotate_left
                      · intro w'
                        go_simp
                        with_reducible rfl
                      rotate_left
                      · simp only [Act.put, List.setIfInBounds_toArray, List.set_cons_zero, List.set_cons_succ, i64_w, i32_w]
                        rfl
                      refine pure_ (i := 2) (N := some 21) (v := ?_) (a' := ?_) #[true, false, true, false, false, false, false, false, false, false, false, false] rfl rfl (any_of HT_.out (by kernel_rfl)) (fun _ _ _ h => h) (Or.inl ⟨by rfl, ?_⟩) ?_ ?_
                      rotate_left
                      · intro w'
                        go_simp
                        with_reducible rfl
                      rotate_left
                      · simp only [Act.put, List.setIfInBounds_toArray, List.set_cons_zero, List.set_cons_succ, i64_w, i32_w]
                        rfl
                      refine pure_ (i := 3) (N := some 22) (v := ?_) (a' := ?_) #[true, false, true, true, false, false, false, false, false, false, false, false] rfl rfl (any_of HT_.out (by kernel_rfl)) (fun _ _ _ h => h) (Or.inl ⟨by rfl, ?_⟩) ?_ ?_
                      rotate_left
                      · intro w'
                        go_simp
                        with_reducible rfl
                      rotate_left
                      · simp only [Act.put, List.setIfInBounds_toArray, List.set_cons_zero, List.set_cons_succ, i64_w, i32_w]
                        rfl
                      refine inv_at [1, 4, 5, 6, 7, 8, 9, 10, 11] (fun a0_ b a w' => ∃ (v135 : Value) (adz_v135 : Addr) (m8_ : Value), a = putSel a0_ b [(1, 20, v135), (4, 23, .pointer (some (ad137.add (x5_1).toNat))), (5, 24, .int .i64 (rd t125 x5_1)), (6, 25, .agg #[.int .i64 a0_0, .bool a0_1]), (7, 26, .int .i64 t138), (8, 27, m8_), (9, 28, .string (rdOf ByteArray.empty y134 t138)), (10, 29, .string ((x4_1 ++ (⟨#[32]⟩ : ByteArray)) ++ (rdOf ByteArray.empty y134 t138))), (11, 4, .string ((x4_1 ++ (⟨#[32]⟩ : ByteArray)) ++ (rdOf ByteArray.empty y134 t138)))] ∧ (Kd.R (Kd.int .i64) 3 w' w.heap.size (fun _ => True) (.slice (some ad137) t125.length co6) t125) ∧ (w'.heap[gb124]? = some (.cells #[.int .i64 a0_0, .bool a0_1] 25 (0, 0))) ∧ (Below w.heap.size w w') ∧ (b 1 = true → Kd.R Kd.string 9 w' w.heap.size (fun _ => True) v135 y134) ∧ (b 1 = true → ∃ c_, (v135 : Value) = .slice (some adz_v135) y134.length c_) ∧ (b 8 = true → (m8_ : Value) = .pointer (some (adz_v135.add (t138).toNat)))) HT_.out HW_.out (by kernel_rfl) (by kernel_rfl) ?_ ?_ ?_
                      · exact ⟨.bool false, ⟨0, 0, none⟩, .bool false, by simp only [putSel, Bool.false_eq_true, if_false], HO_3.out, BK124.out, HB.out, fun h_ => absurd h_ (by decide), fun h_ => absurd h_ (by decide), fun h_ => absurd h_ (by decide)⟩
                      · skip
                        clear BK124 HB HO_3
                        refine steps_cons ?_ ?_
                        · rintro b a w' ⟨v135, adz_v135, m8_, ha, Q_HO_3, Q_BK124, Q_HB, Q_HO136, Q_HA_HO136, Q_X8_⟩ hb_ hon hoff
                          refine ⟨_, rfl, fun K hK => ?_⟩
                          replace ha := Aside0.mk ha
                          have HO_3 := Aside0.mk Q_HO_3
                          have BK124 := Aside0.mk Q_BK124
                          have HB := Aside0.mk Q_HB
                          refine Kd.R_lit_step Kd.string _ 9 ?hg (N := 20) ?hd (xs := ([(⟨#[117, 116]⟩ : ByteArray), (⟨#[114, 101]⟩ : ByteArray), (⟨#[109, 105]⟩ : ByteArray), (⟨#[102, 97]⟩ : ByteArray), (⟨#[115, 111, 108]⟩ : ByteArray), (⟨#[108, 97]⟩ : ByteArray)] : List ByteArray)) (inner := [.string (⟨#[117, 116]⟩ : ByteArray), .string (⟨#[114, 101]⟩ : ByteArray), .string (⟨#[109, 105]⟩ : ByteArray), .string (⟨#[102, 97]⟩ : ByteArray), .string (⟨#[115, 111, 108]⟩ : ByteArray), .string (⟨#[108, 97]⟩ : ByteArray)]) (ok := fun _ => True) (okp := fun _ => True) ?hr ?hp (fun _ hk => hk) trivial (Below.refl _ _) (Nat.le_refl _) (by simp) ?_; (case hd => rfl); (case hg => rfl); (case hr => first | (go_simp; done) | (go_simp; rfl)); (case hp => exact (Reps.one (show Kd.M Kd.string _ _ _ (⟨#[117, 116]⟩ : ByteArray) [.string (⟨#[117, 116]⟩ : ByteArray)] from rfl) (Reps.one (show Kd.M Kd.string _ _ _ (⟨#[114, 101]⟩ : ByteArray) [.string (⟨#[114, 101]⟩ : ByteArray)] from rfl) (Reps.one (show Kd.M Kd.string _ _ _ (⟨#[109, 105]⟩ : ByteArray) [.string (⟨#[109, 105]⟩ : ByteArray)] from rfl) (Reps.one (show Kd.M Kd.string _ _ _ (⟨#[102, 97]⟩ : ByteArray) [.string (⟨#[102, 97]⟩ : ByteArray)] from rfl) (Reps.one (show Kd.M Kd.string _ _ _ (⟨#[115, 111, 108]⟩ : ByteArray) [.string (⟨#[115, 111, 108]⟩ : ByteArray)] from rfl) (Reps.one (show Kd.M Kd.string _ _ _ (⟨#[108, 97]⟩ : ByteArray) [.string (⟨#[108, 97]⟩ : ByteArray)] from rfl) (Reps.none _ _))))))))
                          intro v135 w30 ho31 hb hg_ hnew_
                          clear hg_ hnew_
                          (first | rw [← Ny134.out] at ho31 | (simp only [Int.reduceToNat] at ho31; rw [← Ny134.out] at ho31))
                          have n0_ := Aside0.mk (Kd.R_below (by (with_reducible repeat (first | apply Kd.R_alloc | apply Kd.R_drewN | apply Kd.R_drew)); exact HO_3.out) hb)
                          have n1_ := Aside0.mk (Kd.R_lower ho31 (below_size (by repeat (first | (with_reducible first | exact HB.out | apply below_alloc | apply pw_below_drewN | apply below_drew1 | refine below_set ?_ GE124.out) | exact HB.out))))
                          have n2_ := Aside0.mk (blk_below (g := gb124) (o := .cells #[.int .i64 a0_0, .bool a0_1] 25 (0, 0)) (by (with_reducible repeat (first | refine blk_drewN ?_ _ | refine blk_drew ?_ | refine blk_alloc ?_ _)); exact BK124.out) hb)
                          have n3_ := Aside0.mk (below_step (by repeat (first | (with_reducible first | exact HB.out | apply below_alloc | apply pw_below_drewN | apply below_drew1 | refine below_set ?_ GE124.out) | exact HB.out)) hb)
                          clear HO_3
                          clear BK124
                          clear HB
                          have HO_3 := n0_
                          have HO136 := n1_
                          have BK124 := n2_
                          have HB := n3_
                          clear n0_ n1_ n2_ n3_
                          clear hb ho31
                          obtain ⟨Ao32, co32, eo32⟩ := Kd.R_slice HO136.out
                          subst eo32
                          obtain ⟨ado32, fo32, _⟩ := Kd.at_string (Kd.R_reads' HO136.out).2.2 0 (by decide) (by rw [Ny134.out]; simp)
                          cases fo32
                          refine hK.out _ _ ⟨.slice (some ado32) y134.length co32, ado32, m8_, (by rw [ha.out]; exact putSel_upk 0 hb_ rfl rfl rfl), (by (with_reducible repeat (first | apply Kd.R_alloc | apply Kd.R_drewN | apply Kd.R_drew)); exact HO_3.out), (by (with_reducible repeat (first | refine blk_drewN ?_ _ | refine blk_drew ?_ | refine blk_alloc ?_ _)); exact BK124.out), (by repeat (first | (with_reducible first | exact HB.out | apply below_alloc | apply pw_below_drewN | apply below_drew1 | refine below_set ?_ GE124.out) | exact HB.out)), fun _ => (by (with_reducible repeat (first | apply Kd.R_alloc | apply Kd.R_drewN | apply Kd.R_drew)); exact HO136.out), fun _ => ⟨_, rfl⟩, fun h0_ => absurd ((hoff 8 (by kernel_rfl)).symm.trans h0_) (by decide)⟩
                        refine steps_cons ?_ ?_
                        · rintro b a w' ⟨v135, adz_v135, m8_, ha, Q_HO_3, Q_BK124, Q_HB, Q_HO136, Q_HA_HO136, Q_X8_⟩ hb_ hon hoff
                          refine ⟨_, rfl, fun K hK => ?_⟩
                          have e21 : a.tmps[21]? = some (.slice (some ad137) t125.length co6) := by rw [ha]; exact (putSel_off rfl).trans rfl
                          have e22 : a.tmps[22]? = some (.int .i64 x5_1) := by rw [ha]; exact (putSel_off rfl).trans rfl
                          replace ha := Aside0.mk ha
                          have HO_3 := Aside0.mk Q_HO_3
                          have BK124 := Aside0.mk Q_BK124
                          have HB := Aside0.mk Q_HB
                          refine value_ (w1 := w') (v := .pointer (some (ad137.add (x5_1).toNat))) (by rfl) rfl ?_ ?_
                          · go_simp
                            (try simp only [i64_w])
                            try rfl
                          refine hK.out _ _ ⟨v135, adz_v135, m8_, (by rw [ha.out]; exact putSel_upk 1 hb_ rfl rfl rfl), Q_HO_3, Q_BK124, Q_HB, Q_HO136, Q_HA_HO136, fun h0_ => absurd ((hoff 8 (by kernel_rfl)).symm.trans h0_) (by decide)⟩
                        refine steps_cons ?_ ?_
                        · rintro b a w' ⟨v135, adz_v135, m8_, ha, Q_HO_3, Q_BK124, Q_HB, Q_HO136, Q_HA_HO136, Q_X8_⟩ hb_ hon hoff
                          refine ⟨_, rfl, fun K hK => ?_⟩
                          have e23 : a.tmps[23]? = some (.pointer (some (ad137.add (x5_1).toNat))) := by rw [ha]; exact putSel_on (e := (4, 23, .pointer (some (ad137.add (x5_1).toNat)))) 1 rfl rfl (hon 4 (by kernel_rfl)) rfl
                          replace ha := Aside0.mk ha
                          have HO_3 := Aside0.mk Q_HO_3
                          have BK124 := Aside0.mk Q_BK124
                          have HB := Aside0.mk Q_HB
                          obtain ⟨ad137_z, e137_z, hx137_0_z⟩ := Kd.at_int (Kd.R_reads' HO_3.out).2.2 x5_1 (of_eq_true p137) (of_eq_true q137)
                          cases e137_z
                          have hs0_ : w'.cell? (ad137.add (x5_1).toNat) = some (.int .i64 (rd t125 x5_1)) := (by first | exact hx137_0_z | (have h_ := hx137_0_z; (try simp only [Int.reduceToNat, Nat.zero_mul, Nat.reduceMul, Nat.reduceEqDiff, Go.Addr.add, ↓reduceIte, Addr.add_zero'] at h_); exact h_))
                          refine value_ (w1 := w') (v := .int .i64 (rd t125 x5_1)) (by rfl) rfl ?_ ?_
                          · go_simp
                            (try simp only [i64_w])
                            try rfl
                          refine hK.out _ _ ⟨v135, adz_v135, m8_, (by rw [ha.out]; exact putSel_upk 2 hb_ rfl rfl rfl), Q_HO_3, Q_BK124, Q_HB, Q_HO136, Q_HA_HO136, fun h0_ => absurd ((hoff 8 (by kernel_rfl)).symm.trans h0_) (by decide)⟩
                        refine steps_cons ?_ ?_
                        · rintro b a w' ⟨v135, adz_v135, m8_, ha, Q_HO_3, Q_BK124, Q_HB, Q_HO136, Q_HA_HO136, Q_X8_⟩ hb_ hon hoff
                          refine ⟨_, rfl, fun K hK => ?_⟩
                          have e1 : a.tmps[1]? = some (.pointer (some ⟨gb124, 0, none⟩)) := by rw [ha]; exact (putSel_off rfl).trans rfl
                          replace ha := Aside0.mk ha
                          have HO_3 := Aside0.mk Q_HO_3
                          have BK124 := Aside0.mk Q_BK124
                          have HB := Aside0.mk Q_HB
                          have hc0_ : w'.cell? ⟨gb124, 0, none⟩ = some (.int .i64 a0_0) := (blk_cell BK124.out 0).trans rfl
                          have hc1_ : w'.cell? ⟨gb124, 1, none⟩ = some (.bool a0_1) := (blk_cell BK124.out 1).trans rfl
                          refine value_ (w1 := w') (v := .agg #[.int .i64 a0_0, .bool a0_1]) (by rfl) rfl ?_ ?_
                          · go_simp
                            (try simp only [i64_w])
                            try rfl
                          refine hK.out _ _ ⟨v135, adz_v135, m8_, (by rw [ha.out]; exact putSel_upk 3 hb_ rfl rfl rfl), Q_HO_3, Q_BK124, Q_HB, Q_HO136, Q_HA_HO136, fun h0_ => absurd ((hoff 8 (by kernel_rfl)).symm.trans h0_) (by decide)⟩
                        refine steps_cons ?_ ?_
                        · rintro b a w' ⟨v135, adz_v135, m8_, ha, Q_HO_3, Q_BK124, Q_HB, Q_HO136, Q_HA_HO136, Q_X8_⟩ hb_ hon hoff
                          refine ⟨_, rfl, fun K hK => ?_⟩
                          have e24 : a.tmps[24]? = some (.int .i64 (rd t125 x5_1)) := by rw [ha]; exact putSel_on (e := (5, 24, .int .i64 (rd t125 x5_1))) 2 rfl rfl (hon 5 (by kernel_rfl)) rfl
                          have e25 : a.tmps[25]? = some (.agg #[.int .i64 a0_0, .bool a0_1]) := by rw [ha]; exact putSel_on (e := (6, 25, .agg #[.int .i64 a0_0, .bool a0_1])) 3 rfl rfl (hon 6 (by kernel_rfl)) rfl
                          replace ha := Aside0.mk ha
                          have HO_3 := Aside0.mk Q_HO_3
                          have BK124 := Aside0.mk Q_BK124
                          have HB := Aside0.mk Q_HB
                          refine goes_ Tryd.func19 (by kernel_rfl) rfl #[.int .i64 (rd t125 x5_1), .agg #[.int .i64 a0_0, .bool a0_1]] (by rfl) rfl rfl (by first | (simp only [List.map_toArray, List.map_cons, List.map_nil, Act.eval, Array.getD_eq_getD_getElem?, Option.getD_some, e24, e25]; done) | (simp only [List.map_toArray, List.map_cons, List.map_nil, Act.eval, Array.getD_eq_getD_getElem?, Option.getD_some, e24, e25]; rfl)) ?_
                          with_reducible refine (spec_HexSyllable.calls k1 (rd t125 x5_1) a0_0 a0_1 t138 _ A25.out).mono ?_
                          rintro e w30 ⟨rfl, hb⟩
                          refine ⟨_, rfl, ?_⟩
                          have n0_ := Aside0.mk (Kd.R_below (by (with_reducible repeat (first | apply Kd.R_alloc | apply Kd.R_drewN | apply Kd.R_drew)); exact HO_3.out) hb)
                          have n1_ := Aside0.mk (blk_below (g := gb124) (o := .cells #[.int .i64 a0_0, .bool a0_1] 25 (0, 0)) (by (with_reducible repeat (first | refine blk_drewN ?_ _ | refine blk_drew ?_ | refine blk_alloc ?_ _)); exact BK124.out) hb)
                          have n2_ := Aside0.mk (below_step (by repeat (first | (with_reducible first | exact HB.out | apply below_alloc | apply pw_below_drewN | apply below_drew1 | refine below_set ?_ GE124.out) | exact HB.out)) hb)
                          have z_HO136 := fun (h0_ : b 1 = true) => (show Kd.R Kd.string 9 w30 w.heap.size (fun _ => True) v135 y134 from by first | exact (Kd.R_below (by (with_reducible repeat (first | apply Kd.R_alloc | apply Kd.R_drewN | apply Kd.R_drew)); exact (Q_HO136 h0_)) hb) | exact Kd.R_mono (Kd.R_below (by (with_reducible repeat (first | apply Kd.R_alloc | apply Kd.R_drewN | apply Kd.R_drew)); exact (Q_HO136 h0_)) hb) (fun _ h_ => by first | trivial | exact h_ | exact h_.1))
                          clear HO_3
                          clear BK124
                          clear HB
                          have HO_3 := n0_
                          have BK124 := n1_
                          have HB := n2_
                          clear n0_ n1_ n2_
                          (try clear hb)
                          (try clear hb2)
                          (try clear hk)
                          (try clear hi)
                          refine hK.out _ _ ⟨v135, adz_v135, m8_, (by rw [ha.out]; exact putSel_upk 4 hb_ rfl rfl rfl), (by (with_reducible repeat (first | apply Kd.R_alloc | apply Kd.R_drewN | apply Kd.R_drew)); exact HO_3.out), (by (with_reducible repeat (first | refine blk_drewN ?_ _ | refine blk_drew ?_ | refine blk_alloc ?_ _)); exact BK124.out), (by repeat (first | (with_reducible first | exact HB.out | apply below_alloc | apply pw_below_drewN | apply below_drew1 | refine below_set ?_ GE124.out) | exact HB.out)), z_HO136, Q_HA_HO136, fun h0_ => absurd ((hoff 8 (by kernel_rfl)).symm.trans h0_) (by decide)⟩
                        refine steps_cons ?_ ?_
                        · rintro b a w' ⟨v135, adz_v135, m8_, ha, Q_HO_3, Q_BK124, Q_HB, Q_HO136, Q_HA_HO136, Q_X8_⟩ hb_ hon hoff
                          refine ⟨_, rfl, fun K hK => ?_⟩
                          have e20 : a.tmps[20]? = some (v135) := by rw [ha]; exact putSel_on (e := (1, 20, v135)) 0 rfl rfl (hon 1 (by kernel_rfl)) rfl
                          have e26 : a.tmps[26]? = some (.int .i64 t138) := by rw [ha]; exact putSel_on (e := (7, 26, .int .i64 t138)) 4 rfl rfl (hon 7 (by kernel_rfl)) rfl
                          replace ha := Aside0.mk ha
                          have HO_3 := Aside0.mk Q_HO_3
                          have BK124 := Aside0.mk Q_BK124
                          have HB := Aside0.mk Q_HB
                          have HO136 := Aside0.mk (Q_HO136 (hon 1 (by kernel_rfl)))
                          have HA_HO136 := Aside0.mk (Q_HA_HO136 (hon 1 (by kernel_rfl)))
                          obtain ⟨c_, hv_⟩ := HA_HO136.out
                          rw [hv_] at e20
                          refine value_ (w1 := w') (v := .pointer (some (adz_v135.add (t138).toNat))) (by rfl) rfl ?_ ?_
                          · go_simp
                            (try simp only [i64_w])
                            try rfl
                          refine hK.out _ _ ⟨v135, adz_v135, (.pointer (some (adz_v135.add (t138).toNat))), (by rw [ha.out]; exact putSel_upk 5 hb_ rfl rfl rfl), Q_HO_3, Q_BK124, Q_HB, Q_HO136, Q_HA_HO136, fun _ => rfl⟩
                        refine steps_cons ?_ ?_
                        · rintro b a w' ⟨v135, adz_v135, m8_, ha, Q_HO_3, Q_BK124, Q_HB, Q_HO136, Q_HA_HO136, Q_X8_⟩ hb_ hon hoff
                          refine ⟨_, rfl, fun K hK => ?_⟩
                          have e27 : a.tmps[27]? = some (m8_) := by rw [ha]; exact putSel_on (e := (8, 27, m8_)) 5 rfl rfl (hon 8 (by kernel_rfl)) rfl
                          rw [Q_X8_ (hon 8 (by kernel_rfl))] at e27
                          replace ha := Aside0.mk ha
                          have HO_3 := Aside0.mk Q_HO_3
                          have BK124 := Aside0.mk Q_BK124
                          have HB := Aside0.mk Q_HB
                          have HO136 := Aside0.mk (Q_HO136 (hon 1 (by kernel_rfl)))
                          have HA_HO136 := Aside0.mk (Q_HA_HO136 (hon 1 (by kernel_rfl)))
                          obtain ⟨c_, hv_⟩ := HA_HO136.out
                          have hF_ := HO136.out
                          rw [hv_] at hF_
                          obtain ⟨ad_, ea_, hx_⟩ := Kd.at_string (Kd.R_reads' hF_).2.2 t138 (of_eq_true pi139) (of_eq_true qi139)
                          cases ea_
                          refine value_ (w1 := w') (v := .string (rdOf ByteArray.empty y134 t138)) (by rfl) rfl ?_ ?_
                          · go_simp
                            (try simp only [i64_w])
                            try rfl
                          refine hK.out _ _ ⟨v135, adz_v135, m8_, (by rw [ha.out]; exact putSel_upk 6 hb_ rfl rfl rfl), Q_HO_3, Q_BK124, Q_HB, Q_HO136, Q_HA_HO136, Q_X8_⟩
                        refine steps_cons ?_ ?_
                        · rintro b a w' ⟨v135, adz_v135, m8_, ha, Q_HO_3, Q_BK124, Q_HB, Q_HO136, Q_HA_HO136, Q_X8_⟩ hb_ hon hoff
                          refine ⟨_, rfl, fun K hK => ?_⟩
                          have e19 : a.tmps[19]? = some (.string (x4_1 ++ (⟨#[32]⟩ : ByteArray))) := by rw [ha]; exact (putSel_off rfl).trans rfl
                          have e28 : a.tmps[28]? = some (.string (rdOf ByteArray.empty y134 t138)) := by rw [ha]; exact putSel_on (e := (9, 28, .string (rdOf ByteArray.empty y134 t138))) 6 rfl rfl (hon 9 (by kernel_rfl)) rfl
                          replace ha := Aside0.mk ha
                          have HO_3 := Aside0.mk Q_HO_3
                          have BK124 := Aside0.mk Q_BK124
                          have HB := Aside0.mk Q_HB
                          have HO136 := Aside0.mk (Q_HO136 (hon 1 (by kernel_rfl)))
                          have HA_HO136 := Aside0.mk (Q_HA_HO136 (hon 1 (by kernel_rfl)))
                          refine value_ (w1 := w') (v := .string ((x4_1 ++ (⟨#[32]⟩ : ByteArray)) ++ (rdOf ByteArray.empty y134 t138))) (by rfl) rfl ?_ ?_
                          · go_simp
                            (try simp only [i64_w])
                            try rfl
                          refine hK.out _ _ ⟨v135, adz_v135, m8_, (by rw [ha.out]; exact putSel_upk 7 hb_ rfl rfl rfl), Q_HO_3, Q_BK124, Q_HB, Q_HO136, Q_HA_HO136, Q_X8_⟩
                        refine steps_cons ?_ ?_
                        · rintro b a w' ⟨v135, adz_v135, m8_, ha, Q_HO_3, Q_BK124, Q_HB, Q_HO136, Q_HA_HO136, Q_X8_⟩ hb_ hon hoff
                          refine ⟨_, rfl, fun K hK => ?_⟩
                          have e29 : a.tmps[29]? = some (.string ((x4_1 ++ (⟨#[32]⟩ : ByteArray)) ++ (rdOf ByteArray.empty y134 t138))) := by rw [ha]; exact putSel_on (e := (10, 29, .string ((x4_1 ++ (⟨#[32]⟩ : ByteArray)) ++ (rdOf ByteArray.empty y134 t138)))) 7 rfl rfl (hon 10 (by kernel_rfl)) rfl
                          replace ha := Aside0.mk ha
                          have HO_3 := Aside0.mk Q_HO_3
                          have BK124 := Aside0.mk Q_BK124
                          have HB := Aside0.mk Q_HB
                          have HO136 := Aside0.mk (Q_HO136 (hon 1 (by kernel_rfl)))
                          have HA_HO136 := Aside0.mk (Q_HA_HO136 (hon 1 (by kernel_rfl)))
                          refine value_ (w1 := w') (v := .string ((x4_1 ++ (⟨#[32]⟩ : ByteArray)) ++ (rdOf ByteArray.empty y134 t138))) (by rfl) rfl ?_ ?_
                          · go_simp
                            (try simp only [i64_w])
                            try rfl
                          refine hK.out _ _ ⟨v135, adz_v135, m8_, (by rw [ha.out]; exact putSel_upk 8 hb_ rfl rfl rfl), Q_HO_3, Q_BK124, Q_HB, Q_HO136, Q_HA_HO136, Q_X8_⟩
                        exact steps_nil
                      rintro b a w34 hall ⟨v135, adz_v135, m8_, ha, Q_HO_3, Q_BK124, Q_HB, Q_HO136, Q_HA_HO136, Q_X8_⟩
                      clear BK124 HB HO_3
                      have hb1_ := hall 1 (by kernel_rfl)
                      have hb4_ := hall 4 (by kernel_rfl)
                      have hb5_ := hall 5 (by kernel_rfl)
                      have hb6_ := hall 6 (by kernel_rfl)
                      have hb7_ := hall 7 (by kernel_rfl)
                      have hb8_ := hall 8 (by kernel_rfl)
                      have hb9_ := hall 9 (by kernel_rfl)
                      have hb10_ := hall 10 (by kernel_rfl)
                      have hb11_ := hall 11 (by kernel_rfl)
                      subst ha
                      obtain rfl := Q_X8_ hb8_
                      simp only [putSel, hb1_, hb4_, hb5_, hb6_, hb7_, hb8_, hb9_, hb10_, hb11_, if_true, Act.put, List.setIfInBounds_toArray, List.set_cons_zero, List.set_cons_succ]
                      have HO_3 := Aside0.mk Q_HO_3
                      clear Q_HO_3
                      have BK124 := Aside0.mk Q_BK124
                      clear Q_BK124
                      have HB := Aside0.mk Q_HB
                      clear Q_HB
                      have HO136 := Aside0.mk (Q_HO136 hb1_)
                      clear Q_HO136
                      have HA_HO136 := Aside0.mk (Q_HA_HO136 hb1_)
                      clear Q_HA_HO136
                      clear hall hb1_ hb4_ hb5_ hb6_ hb7_ hb8_ hb9_ hb10_ hb11_
                      obtain ⟨co35, eo35⟩ := HA_HO136.out
                      clear HA_HO136
                      subst eo35
                      try go_wp2
                      go_roundg k1
                      case measure => have := HK1.out; omega
                      case rel => exact ⟨((x4_1 ++ (⟨#[32]⟩ : ByteArray)) ++ (rdOf ByteArray.empty y134 t138)), (wrap64 (x5_1 - 1)), (by first | rfl | (simp; done) | (simp [*]; done)), (by first | rfl | (simp; done) | (simp [*]; done)), H', ⟨by have := HK1.out; omega⟩, ⟨by (with_reducible repeat (first | apply Kd.R_alloc | apply Kd.R_drewN | apply Kd.R_drew)); exact HO_3.out⟩, ⟨by (with_reducible repeat (first | refine blk_drewN ?_ _ | refine blk_drew ?_ | refine blk_alloc ?_ _)); exact BK124.out⟩, ⟨by repeat (first | (with_reducible first | exact HB.out | apply below_alloc | apply pw_below_drewN | apply below_drew1 | refine below_set ?_ GE124.out) | exact HB.out)⟩⟩
                    · rw [if_neg c28] at H
                      exact absurd H (by simp)
                  · rw [if_neg c27] at H
                    exact absurd H (by simp)
                · rw [if_neg c26] at H
                  exact absurd H (by simp)
              · rw [if_neg c24] at H
                exact absurd H (by simp)
            · rw [if_neg c23] at H
              exact absurd H (by simp)
          · rw [if_neg c22] at H
            exact absurd H (by simp)
      · rw [if_neg c7] at H
        have c7b0 : decide (0 ≤ x5_1) = false := decide_eq_false c7
        clear c7
        obtain rfl := Option.some.inj H
        go_wp2
        go_ret
        exact ⟨by first | rfl | (simp [errW_none, errW_some] <;> rfl) | (simp [*, errW_none, errW_some] <;> rfl), by repeat (first | (with_reducible first | exact HB.out | apply below_alloc | apply pw_below_drewN | apply below_drew1 | refine below_set ?_ GE124.out) | exact HB.out)⟩

/-! ### laws_toTone: function 7 -/
def laws_toTone.f (a0_0 : Int) (a0_1 : Bool) : Option (Int × Bool) := some (a0_0, a0_1)
set_option maxHeartbeats 8000000 in
set_option maxRecDepth 100000 in
theorem laws_toTone.calls (a0_0 : Int) (a0_1 : Bool) (r1 : Int) (r2 : Bool) (w : World) (h : laws_toTone.f a0_0 a0_1 = some (r1, r2)) :
    Calls Tryd.prog 7 #[.agg #[.int .i64 a0_0, .bool a0_1]] w fun e w' => e = .returned (.agg #[.int .i64 r1, .bool r2]) ∧ Below w.heap.size w w' := by
  have hu23 := Tryd.underlying23
  have hu25 := Tryd.underlying25
  have HB := Aside0.mk (Below.refl w.heap.size w)
  have H : (some (a0_0, a0_1)) = some (r1, r2) := h
  clear h
  simp only [Option.some.injEq, Prod.mk.injEq] at H
  obtain ⟨rfl, rfl⟩ := H
  go_enter Tryd.func7, Tryd.ntmps7
  go_wp2_with (first | ((with_reducible refine gate_dst (N := 1) rfl ?_); refine box_event ?hg (N := 1) ?hd (cs := #[.int .i64 a0_0, .bool a0_1]) (t := 23) ?hr ?_; (case hd => rfl); (case hg => rfl); (case hr => first | (go_simp; done) | (go_simp; rfl)); intro gb140 hg w2 hbox hb; have n0_ := Aside0.mk (below_step (by repeat (first | (with_reducible first | exact HB.out | apply below_alloc | apply pw_below_drewN | apply below_drew1) | exact HB.out)) hb); have n1_ := Aside0.mk (hbox); have n2_ := Aside0.mk ((by rw [hg]; exact (below_size (by repeat (first | (with_reducible first | exact HB.out | apply below_alloc | apply pw_below_drewN | apply below_drew1) | exact HB.out))) : w.heap.size ≤ gb140)); have n3_ := Aside0.mk ((by rw [hg]; exact (below_size (by repeat (first | (with_reducible first | exact HB.out | apply below_alloc | apply pw_below_drewN | apply below_drew1) | exact HB.out))) : w.heap.size ≤ gb140)); clear HB; have HB := n0_; have BK140 := n1_; have GW140 := n2_; have GE140 := n3_; clear n0_ n1_ n2_ n3_; clear hb hbox hg) | ((with_reducible refine gate_dst (N := 2) rfl ?_); refine box_event ?hg (N := 2) ?hd (cs := #[.int .i64 0, .bool false]) (t := 25) ?hr ?_; (case hd => rfl); (case hg => rfl); (case hr => first | (go_simp; done) | (go_simp; rfl)); intro gb141 hg w3 hbox hb; have n0_ := Aside0.mk (blk_below (g := gb140) (o := .cells #[.int .i64 a0_0, .bool a0_1] 23 (0, 0)) (by (with_reducible repeat (first | refine blk_drewN ?_ _ | refine blk_drew ?_ | refine blk_alloc ?_ _)); exact BK140.out) hb); have n1_ := Aside0.mk (below_step (by repeat (first | (with_reducible first | exact HB.out | apply below_alloc | apply pw_below_drewN | apply below_drew1 | refine below_set ?_ GE140.out) | exact HB.out)) hb); have n2_ := Aside0.mk (hbox); have n3_ := Aside0.mk ((by rw [hg]; exact (below_size (by repeat (first | (with_reducible first | exact HB.out | apply below_alloc | apply pw_below_drewN | apply below_drew1 | refine below_set ?_ GE140.out) | exact HB.out))) : w.heap.size ≤ gb141)); have n4_ := Aside0.mk ((by rw [hg]; exact (below_size (by repeat (first | (with_reducible first | exact HB.out | apply below_alloc | apply pw_below_drewN | apply below_drew1 | refine below_set ?_ GE140.out) | exact HB.out))) : w.heap.size ≤ gb141)); have n5_ := Aside0.mk ((by rw [hg]; exact Nat.ne_of_lt (blk_lt (g := gb140) (o := .cells #[.int .i64 a0_0, .bool a0_1] 23 (0, 0)) (by (with_reducible repeat (first | refine blk_drewN ?_ _ | refine blk_drew ?_ | refine blk_alloc ?_ _)); exact BK140.out)) : gb140 ≠ gb141)); have n6_ := Aside0.mk ((by rw [hg]; exact Nat.ne_of_gt (blk_lt (g := gb140) (o := .cells #[.int .i64 a0_0, .bool a0_1] 23 (0, 0)) (by (with_reducible repeat (first | refine blk_drewN ?_ _ | refine blk_drew ?_ | refine blk_alloc ?_ _)); exact BK140.out)) : gb141 ≠ gb140)); clear BK140; clear HB; have BK140 := n0_; have HB := n1_; have BK141 := n2_; have GW141 := n3_; have GE141 := n4_; have NB140_141 := n5_; have NB141_140 := n6_; clear n0_ n1_ n2_ n3_ n4_ n5_ n6_; clear hb hbox hg) | ((with_reducible refine gate_dst (N := 3) rfl ?_); refine box_event ?hg (N := 3) ?hd (cs := #[.int .i64 0, .bool false]) (t := 25) ?hr ?_; (case hd => rfl); (case hg => rfl); (case hr => first | (go_simp; done) | (go_simp; rfl)); intro gb142 hg w4 hbox hb; have n0_ := Aside0.mk (blk_below (g := gb140) (o := .cells #[.int .i64 a0_0, .bool a0_1] 23 (0, 0)) (by (with_reducible repeat (first | refine blk_drewN ?_ _ | refine blk_drew ?_ | refine blk_alloc ?_ _)); exact BK140.out) hb); have n1_ := Aside0.mk (blk_below (g := gb141) (o := .cells #[.int .i64 0, .bool false] 25 (0, 0)) (by (with_reducible repeat (first | refine blk_drewN ?_ _ | refine blk_drew ?_ | refine blk_alloc ?_ _)); exact BK141.out) hb); have n2_ := Aside0.mk (below_step (by repeat (first | (with_reducible first | exact HB.out | apply below_alloc | apply pw_below_drewN | apply below_drew1 | refine below_set ?_ GE140.out | refine below_set ?_ GE141.out) | exact HB.out)) hb); have n3_ := Aside0.mk (hbox); have n4_ := Aside0.mk ((by rw [hg]; exact (below_size (by repeat (first | (with_reducible first | exact HB.out | apply below_alloc | apply pw_below_drewN | apply below_drew1 | refine below_set ?_ GE140.out | refine below_set ?_ GE141.out) | exact HB.out))) : w.heap.size ≤ gb142)); have n5_ := Aside0.mk ((by rw [hg]; exact (below_size (by repeat (first | (with_reducible first | exact HB.out | apply below_alloc | apply pw_below_drewN | apply below_drew1 | refine below_set ?_ GE140.out | refine below_set ?_ GE141.out) | exact HB.out))) : w.heap.size ≤ gb142)); have n6_ := Aside0.mk ((by rw [hg]; exact Nat.ne_of_lt (blk_lt (g := gb140) (o := .cells #[.int .i64 a0_0, .bool a0_1] 23 (0, 0)) (by (with_reducible repeat (first | refine blk_drewN ?_ _ | refine blk_drew ?_ | refine blk_alloc ?_ _)); exact BK140.out)) : gb140 ≠ gb142)); have n7_ := Aside0.mk ((by rw [hg]; exact Nat.ne_of_gt (blk_lt (g := gb140) (o := .cells #[.int .i64 a0_0, .bool a0_1] 23 (0, 0)) (by (with_reducible repeat (first | refine blk_drewN ?_ _ | refine blk_drew ?_ | refine blk_alloc ?_ _)); exact BK140.out)) : gb142 ≠ gb140)); have n8_ := Aside0.mk ((by rw [hg]; exact Nat.ne_of_lt (blk_lt (g := gb141) (o := .cells #[.int .i64 0, .bool false] 25 (0, 0)) (by (with_reducible repeat (first | refine blk_drewN ?_ _ | refine blk_drew ?_ | refine blk_alloc ?_ _)); exact BK141.out)) : gb141 ≠ gb142)); have n9_ := Aside0.mk ((by rw [hg]; exact Nat.ne_of_gt (blk_lt (g := gb141) (o := .cells #[.int .i64 0, .bool false] 25 (0, 0)) (by (with_reducible repeat (first | refine blk_drewN ?_ _ | refine blk_drew ?_ | refine blk_alloc ?_ _)); exact BK141.out)) : gb142 ≠ gb141)); clear BK140; clear BK141; clear HB; have BK140 := n0_; have BK141 := n1_; have HB := n2_; have BK142 := n3_; have GW142 := n4_; have GE142 := n5_; have NB140_142 := n6_; have NB142_140 := n7_; have NB141_142 := n8_; have NB142_141 := n9_; clear n0_ n1_ n2_ n3_ n4_ n5_ n6_ n7_ n8_ n9_; clear hb hbox hg; have hnb5 := NB140_141.out; have hnc5 := NB141_140.out; have hnb6 := NB140_142.out; have hnc6 := NB142_140.out; have hcz7_0 : w4.cell? ⟨gb140, 0, none⟩ = some (.int .i64 a0_0) := (blk_cell BK140.out 0).trans rfl; have hcz7_1 : w4.cell? ⟨gb140, 1, none⟩ = some (.bool a0_1) := (blk_cell BK140.out 1).trans rfl; have hfz7_0 := blk_frozen BK140.out 0; have hfz7_1 := blk_frozen BK140.out 1; have hnb8 := NB142_141.out; have hnc8 := NB141_142.out; have hcz9_0 : w4.cell? ⟨gb142, 0, none⟩ = some (.int .i64 0) := (blk_cell BK142.out 0).trans rfl; have hcz9_1 : w4.cell? ⟨gb142, 1, none⟩ = some (.bool false) := (blk_cell BK142.out 1).trans rfl; have hfz9_0 := blk_frozen BK142.out 0; have hfz9_1 := blk_frozen BK142.out 1; have hcz10_0 : w4.cell? ⟨gb141, 0, none⟩ = some (.int .i64 0) := (blk_cell BK141.out 0).trans rfl; have hcz10_1 : w4.cell? ⟨gb141, 1, none⟩ = some (.bool false) := (blk_cell BK141.out 1).trans rfl; have hfz10_0 := blk_frozen BK141.out 0; have hfz10_1 := blk_frozen BK141.out 1))
  refine bodyPost_ret (results_cell_row rfl _ _ gb141 25 #[.int .i64 a0_0, .bool a0_1] (0, 0) _ rfl (by (with_reducible repeat (first | refine blk_drewN ?_ _ | refine blk_drew ?_ | refine blk_alloc ?_ _)); refine blk_put (cs := #[.int .i64 a0_0, .bool false]) ?_ 1 _ rfl; (with_reducible repeat (first | refine blk_drewN ?_ _ | refine blk_drew ?_ | refine blk_alloc ?_ _)); refine blk_put (cs := #[.int .i64 0, .bool false]) ?_ 0 _ rfl; (with_reducible repeat (first | refine blk_drewN ?_ _ | refine blk_drew ?_ | refine blk_alloc ?_ _)); refine blk_far ?_ NB141_142.out _; (with_reducible repeat (first | refine blk_drewN ?_ _ | refine blk_drew ?_ | refine blk_alloc ?_ _)); refine blk_far ?_ NB141_142.out _; (with_reducible repeat (first | refine blk_drewN ?_ _ | refine blk_drew ?_ | refine blk_alloc ?_ _)); exact BK141.out) Tryd.underlying25 rfl (by kernel_rfl)) rfl ?_
  exact ⟨by first | rfl | (simp [errW_none, errW_some] <;> rfl) | (simp [*, errW_none, errW_some] <;> rfl), by repeat (first | (with_reducible first | exact HB.out | apply below_alloc | apply pw_below_drewN | apply below_drew1 | refine below_set ?_ GE140.out | refine below_set ?_ GE141.out | refine below_set ?_ GE142.out) | exact HB.out)⟩

end Go.Proofs.YtpfgeflnhkpmaaaDoor.XN
