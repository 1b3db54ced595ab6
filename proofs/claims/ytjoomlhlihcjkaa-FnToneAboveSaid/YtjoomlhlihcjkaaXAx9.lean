-- Written by this session's own program (wip/tools/xprint.py) out of the translation. Not trusted: Lean checks it.
import Derived.Test.YtjoomlhlihcjkaaXAx0
import Derived.Test.YtjoomlhlihcjkaaXAx8
namespace Go.Proofs.Ytjoomlhlihcjkaa.XA
open Go.RowKit Go.Proofs.YtjoomlhlihcjkaaW.PrintWords Go.Proofs.YtjoomlhlihcjkaaW.PrintLast Go.Proofs.YtjoomlhlihcjkaaW.PrintMore
attribute [local go_sem] max2_int min2_int max_two min_two max_three min_three max_four min_four   -- for this text's walks alone
set_option linter.unusedVariables false
set_option linter.unusedSimpArgs false

/-! ### spec_DrawToneAbove: function 21 -/
def spec_DrawToneAbove.f (k : Nat) (l0 : List Int) : Option (Int × Bool × Int × Bool) := (spec_l6Open.f l0).bind fun bt189 => ((spec_l91Tone.f k bt189.1 bt189.2).bind fun bt192 => ((spec_l6Rd_pick.f k bt189.1 bt192.2.2 16).bind fun bt196 => (if bt196.1 = 0 then ((some (([9223372036854775807, (-9223372036854775808), 20] : List Int) : List Int)).bind fun y198 => ((spec_l6Rd_pick.f k bt189.1 bt196.2 3).bind fun bt201 => (if 0 ≤ bt201.1 then (if bt201.1 < (y198.length : Int) then (some (bt192.1, bt192.2.1, rd y198 bt201.1, false)) else (none)) else (none)))) else ((spec_l6Rd_pick.f k bt189.1 bt196.2 17).bind fun bt204 => ((spec_l6Rd_pick.f k bt189.1 bt204.2 4).bind fun bt206 => (some (bt192.1, bt192.2.1, wrap64 (bt204.1 - 8), (bt206.1 == 0))))))))
theorem spec_DrawToneAbove.mono : ∀ a0 k, LeO (spec_DrawToneAbove.f k a0) (spec_DrawToneAbove.f (k + 1) a0) := by
  intro a0 k
  unfold spec_DrawToneAbove.f
  repeat' first
      | (with_reducible exact spec_l6Rd_pick.mono _ _ _ _)
      | (with_reducible exact spec_l91Tone.mono _ _ _)
      | (with_reducible exact LeO.refl _)
      | (with_reducible exact LeO.none _)
      | (with_reducible refine LeO.ite ?_ ?_)
      | (with_reducible refine LeO.bind ?_ (fun _ => ?_))
      | exact spec_l6Rd_pick.mono _ _ _ _
      | exact spec_l91Tone.mono _ _ _
      | exact LeO.none _
      | refine LeO.ite ?_ ?_
      | refine LeO.bind ?_ (fun _ => ?_)
def spec_DrawToneAbove.T4 : Bool × List (List Nat × List Nat) := (true, [([], []), ([], []), ([], []), ([2], [2]), ([1, 3], [1, 3]), ([4], [4]), ([0, 3, 0], [0]), ([5, 6, 0, 1, 2, 3, 4, 5, 6], [5]), ([7, 0, 1, 2, 3, 4, 5, 6, 7], [])])
def spec_DrawToneAbove.B4 : List Nat := [0, 0, 0, 4, 14, 30, 13, 127, 255]
theorem spec_DrawToneAbove.tab4 : rtab .any (opsOf Try.f21 4) = spec_DrawToneAbove.T4 := by kernel_rfl
theorem spec_DrawToneAbove.bits4 : waitsOk spec_DrawToneAbove.T4.2 spec_DrawToneAbove.B4 = true := by kernel_rfl
def spec_DrawToneAbove.T5 : Bool × List (List Nat × List Nat) := (true, [([], []), ([], []), ([1], [1]), ([2], [2]), ([], []), ([4, 2], [4]), ([5], [5]), ([0, 5, 0], [0]), ([3, 7, 0, 1, 2, 3, 7], [3]), ([6, 8, 0, 1, 2, 3, 4, 5, 6, 7, 8], [6])])
def spec_DrawToneAbove.B5 : List Nat := [0, 0, 2, 6, 0, 22, 54, 55, 191, 511]
theorem spec_DrawToneAbove.tab5 : rtab .any (opsOf Try.f21 5) = spec_DrawToneAbove.T5 := by kernel_rfl
theorem spec_DrawToneAbove.bits5 : waitsOk spec_DrawToneAbove.T5.2 spec_DrawToneAbove.B5 = true := by kernel_rfl
set_option maxHeartbeats 8000000 in
set_option maxRecDepth 100000 in
theorem spec_DrawToneAbove.calls (k : Nat) (A0 : Option Addr) (c0 : Nat) (l0 : List Int) (r1 : Int) (r2 : Bool) (r3 : Int) (r4 : Bool) (w : World) (hr0 : Kd.C (Kd.int .u8) w A0 l0.length l0) (hc0 : l0.length ≤ c0) (h : spec_DrawToneAbove.f k l0 = some (r1, r2, r3, r4)) :
    Calls Try.prog 21 #[.slice A0 l0.length c0] w fun e w' => e = .returned (.tuple #[.agg #[.int .i64 r1, .bool r2], .int .i64 r3, .bool r4]) ∧ Below w.heap.size w w' := by
  have hu26 := Try.underlying26
  have HR0 := Aside0.mk hr0
  have HC0 := Aside0.mk hc0
  clear hr0 hc0
  have HB := Aside0.mk (Below.refl w.heap.size w)
  have H : ((spec_l6Open.f l0).bind fun bt189 => ((spec_l91Tone.f k bt189.1 bt189.2).bind fun bt192 => ((spec_l6Rd_pick.f k bt189.1 bt192.2.2 16).bind fun bt196 => (if bt196.1 = 0 then ((some (([9223372036854775807, (-9223372036854775808), 20] : List Int) : List Int)).bind fun y198 => ((spec_l6Rd_pick.f k bt189.1 bt196.2 3).bind fun bt201 => (if 0 ≤ bt201.1 then (if bt201.1 < (y198.length : Int) then (some (bt192.1, bt192.2.1, rd y198 bt201.1, false)) else (none)) else (none)))) else ((spec_l6Rd_pick.f k bt189.1 bt196.2 17).bind fun bt204 => ((spec_l6Rd_pick.f k bt189.1 bt204.2 4).bind fun bt206 => (some (bt192.1, bt192.2.1, wrap64 (bt204.1 - 8), (bt206.1 == 0))))))))) = some (r1, r2, r3, r4) := h
  clear h
  replace H := Option.bind_eq_some_iff.mp H
  obtain ⟨⟨t189, t190⟩, A20, H⟩ := H
  replace H : ((spec_l91Tone.f k t189 t190).bind fun bt192 => ((spec_l6Rd_pick.f k t189 bt192.2.2 16).bind fun bt196 => (if bt196.1 = 0 then ((some (([9223372036854775807, (-9223372036854775808), 20] : List Int) : List Int)).bind fun y198 => ((spec_l6Rd_pick.f k t189 bt196.2 3).bind fun bt201 => (if 0 ≤ bt201.1 then (if bt201.1 < (y198.length : Int) then (some (bt192.1, bt192.2.1, rd y198 bt201.1, false)) else (none)) else (none)))) else ((spec_l6Rd_pick.f k t189 bt196.2 17).bind fun bt204 => ((spec_l6Rd_pick.f k t189 bt204.2 4).bind fun bt206 => (some (bt192.1, bt192.2.1, wrap64 (bt204.1 - 8), (bt206.1 == 0)))))))) = some (r1, r2, r3, r4) := H
  have A2 := Aside0.mk A20
  clear A20
  replace H := Option.bind_eq_some_iff.mp H
  obtain ⟨⟨t192, t193, t194⟩, A30, H⟩ := H
  replace H : ((spec_l6Rd_pick.f k t189 t194 16).bind fun bt196 => (if bt196.1 = 0 then ((some (([9223372036854775807, (-9223372036854775808), 20] : List Int) : List Int)).bind fun y198 => ((spec_l6Rd_pick.f k t189 bt196.2 3).bind fun bt201 => (if 0 ≤ bt201.1 then (if bt201.1 < (y198.length : Int) then (some (t192, t193, rd y198 bt201.1, false)) else (none)) else (none)))) else ((spec_l6Rd_pick.f k t189 bt196.2 17).bind fun bt204 => ((spec_l6Rd_pick.f k t189 bt204.2 4).bind fun bt206 => (some (t192, t193, wrap64 (bt204.1 - 8), (bt206.1 == 0))))))) = some (r1, r2, r3, r4) := H
  have A3 := Aside0.mk A30
  clear A30
  replace H := Option.bind_eq_some_iff.mp H
  obtain ⟨⟨t196, t197⟩, A40, H⟩ := H
  replace H : (if t196 = 0 then ((some (([9223372036854775807, (-9223372036854775808), 20] : List Int) : List Int)).bind fun y198 => ((spec_l6Rd_pick.f k t189 t197 3).bind fun bt201 => (if 0 ≤ bt201.1 then (if bt201.1 < (y198.length : Int) then (some (t192, t193, rd y198 bt201.1, false)) else (none)) else (none)))) else ((spec_l6Rd_pick.f k t189 t197 17).bind fun bt204 => ((spec_l6Rd_pick.f k t189 bt204.2 4).bind fun bt206 => (some (t192, t193, wrap64 (bt204.1 - 8), (bt206.1 == 0)))))) = some (r1, r2, r3, r4) := H
  have A4 := Aside0.mk A40
  clear A40
  by_cases c5 : t196 = 0
  · rw [if_pos c5] at H
    have c5b0 : (t196 == 0) = true := beq_iff_eq.mpr c5
    have c5b1 : (t196 != 0) = false := bne_eq_false_iff_eq.mpr c5
    clear c5
    obtain ⟨y198, hy198⟩ : ∃ y_ : List Int, y_ = (([9223372036854775807, (-9223372036854775808), 20] : List Int)) := ⟨_, rfl⟩
    replace H : ((spec_l6Rd_pick.f k t189 t197 3).bind fun bt201 => (if 0 ≤ bt201.1 then (if bt201.1 < (y198.length : Int) then (some (t192, t193, rd y198 bt201.1, false)) else (none)) else (none))) = some (r1, r2, r3, r4) := by first | (rw [hy198]; with_reducible exact H) | (have H2_ := (Option.bind_some _ _).symm.trans H; rw [hy198]; with_reducible exact H2_) | (have H2_ := (Option.bind_some _ _).symm.trans H; with_reducible exact H2_) | with_reducible exact H | (rw [hy198]; exact H) | exact H
    have Ny198 := Aside0.mk hy198
    clear hy198
    replace H := Option.bind_eq_some_iff.mp H
    obtain ⟨⟨t201, t202⟩, A60, H⟩ := H
    replace H : (if 0 ≤ t201 then (if t201 < (y198.length : Int) then (some (t192, t193, rd y198 t201, false)) else (none)) else (none)) = some (r1, r2, r3, r4) := H
    have A6 := Aside0.mk A60
    clear A60
    by_cases c7 : 0 ≤ t201
    · rw [if_pos c7] at H
      have c7b0 : decide (0 ≤ t201) = true := decide_eq_true c7
      clear c7
      by_cases c8 : t201 < (y198.length : Int)
      · rw [if_pos c8] at H
        have c8b0 : decide (t201 < (y198.length : Int)) = true := decide_eq_true c8
        clear c8
        simp only [Option.some.injEq, Prod.mk.injEq] at H
        obtain ⟨rfl, rfl, rfl, rfl⟩ := H
        go_enter Try.func21, Try.ntmps21
        try go_wp2_with (first | ((with_reducible refine gate_dst (N := 2) rfl ?_); refine box_event ?hg (N := 2) ?hd (cs := #[.int .i64 0, .bool false]) (t := 26) ?hr ?_; (case hd => rfl); (case hg => rfl); (case hr => first | (go_simp; done) | (go_simp; rfl)); intro gb188 hg w9 hbox hb; have n0_ := Aside0.mk (below_step (by repeat (first | (with_reducible first | exact HB.out | apply below_alloc | apply pw_below_drewN | apply below_drew1) | exact HB.out)) hb); have n1_ := Aside0.mk (hbox); have n2_ := Aside0.mk ((by rw [hg]; exact (below_size (by repeat (first | (with_reducible first | exact HB.out | apply below_alloc | apply pw_below_drewN | apply below_drew1) | exact HB.out))) : w.heap.size ≤ gb188)); have n3_ := Aside0.mk ((by rw [hg]; exact (below_size (by repeat (first | (with_reducible first | exact HB.out | apply below_alloc | apply pw_below_drewN | apply below_drew1) | exact HB.out))) : w.heap.size ≤ gb188)); clear HB; have HB := n0_; have BK188 := n1_; have GW188 := n2_; have GE188 := n3_; clear n0_ n1_ n2_ n3_; clear hb hbox hg) | ((with_reducible refine gate_callee (f := 25) rfl ?_); refine goesL_ (some 8) rfl rfl Try.func25 (by kernel_rfl) rfl #[.slice A0 l0.length c0] rfl (by (try simp only [List.map_toArray, List.map_cons, List.map_nil]); first | done | rfl | (simp only [List.length_drop, List.length_take]; rfl)) ?_; (with_reducible refine (spec_l6Open.calls _ _ l0 t189 t190 w _ ?side1 ?side2 ?side3 A2.out).mono ?_); (case side1 => repeat (first | (with_reducible first | exact HB.out | apply below_alloc | apply pw_below_drewN | apply below_drew1 | refine below_set ?_ GE188.out) | exact HB.out)); (case side2 => exact HR0.out); (case side3 => exact HC0.out); rintro e w10 ⟨g191, rfl, hi, hb, hb2⟩; refine ⟨_, rfl, ?_⟩; have n0_ := Aside0.mk (blk_below (g := gb188) (o := .cells #[.int .i64 0, .bool false] 26 (0, 0)) (by (with_reducible repeat (first | refine blk_drewN ?_ _ | refine blk_drew ?_ | refine blk_alloc ?_ _)); exact BK188.out) hb2); have n1_ := Aside0.mk (hb); have n2_ := Aside0.mk (hi); have n3_ := Aside0.mk (IsS49.ne_blk hi (blk_below (g := gb188) (o := .cells #[.int .i64 0, .bool false] 26 (0, 0)) (by (with_reducible repeat (first | refine blk_drewN ?_ _ | refine blk_drew ?_ | refine blk_alloc ?_ _)); exact BK188.out) hb2) (by decide)); have n4_ := Aside0.mk (Ne.symm (IsS49.ne_blk hi (blk_below (g := gb188) (o := .cells #[.int .i64 0, .bool false] 26 (0, 0)) (by (with_reducible repeat (first | refine blk_drewN ?_ _ | refine blk_drew ?_ | refine blk_alloc ?_ _)); exact BK188.out) hb2) (by decide))); clear BK188; clear HB; have BK188 := n0_; have HB := n1_; have HI191 := n2_; have NB191_188 := n3_; have NB188_191 := n4_; clear n0_ n1_ n2_ n3_ n4_; (try clear hb); (try clear hb2); (try clear hk); (try clear hi)) | ((with_reducible refine gate_callee (f := 27) rfl ?_); refine goesL_ (some 10) rfl rfl Try.func27 (by kernel_rfl) rfl #[.pointer (some ⟨g191, 0, none⟩)] rfl (by (try simp only [List.map_toArray, List.map_cons, List.map_nil]); first | done | rfl | (simp only [List.length_drop, List.length_take]; rfl)) ?_; (with_reducible refine (spec_l91Tone.calls k g191 t189 t190 t192 t193 t194 w _ ?side1 ?side2 A3.out).mono ?_); (case side1 => repeat (first | (with_reducible first | exact HI191.out | apply IsS49.alloc | apply IsS49.drewN | apply IsS49.drew | apply IsS49.set_1 | refine IsS49.far ?_ NB191_188.out _) | exact HI191.out)); (case side2 => repeat (first | (with_reducible first | exact HB.out | apply below_alloc | apply pw_below_drewN | apply below_drew1 | refine below_set ?_ (IsS49.ge HI191.out) | refine below_set ?_ GE188.out) | exact HB.out)); rintro e w11 ⟨rfl, hi, hb, hk⟩; refine ⟨_, rfl, ?_⟩; have n0_ := Aside0.mk (KeepBut.blk hk (g' := gb188) (o := .cells #[.int .i64 0, .bool false] 26 (0, 0)) (by (with_reducible repeat (first | refine blk_drewN ?_ _ | refine blk_drew ?_ | refine blk_alloc ?_ _)); exact BK188.out) NB188_191.out (by simp)); have n1_ := Aside0.mk (hb); have n2_ := Aside0.mk (hi); clear BK188; clear HB; clear HI191; have BK188 := n0_; have HB := n1_; have HI191 := n2_; clear n0_ n1_ n2_; (try clear hb); (try clear hb2); (try clear hk); (try clear hi)) | ((with_reducible refine gate_dst (N := 6) rfl ?_); refine box_event ?hg (N := 6) ?hd (cs := #[.int .i64 0, .bool false]) (t := 26) ?hr ?_; (case hd => rfl); (case hg => rfl); (case hr => first | (go_simp; done) | (go_simp; rfl)); intro gb195 hg w12 hbox hb; have n0_ := Aside0.mk (blk_below (g := gb188) (o := .cells #[.int .i64 0, .bool false] 26 (0, 0)) (by (with_reducible repeat (first | refine blk_drewN ?_ _ | refine blk_drew ?_ | refine blk_alloc ?_ _)); exact BK188.out) hb); have n1_ := Aside0.mk (IsS49.below (by repeat (first | (with_reducible first | exact HI191.out | apply IsS49.alloc | apply IsS49.drewN | apply IsS49.drew | apply IsS49.set_1 | refine IsS49.far ?_ NB191_188.out _) | exact HI191.out)) hb); have n2_ := Aside0.mk (below_step (by repeat (first | (with_reducible first | exact HB.out | apply below_alloc | apply pw_below_drewN | apply below_drew1 | refine below_set ?_ (IsS49.ge HI191.out) | refine below_set ?_ GE188.out) | exact HB.out)) hb); have n3_ := Aside0.mk (hbox); have n4_ := Aside0.mk ((by rw [hg]; exact (below_size (by repeat (first | (with_reducible first | exact HB.out | apply below_alloc | apply pw_below_drewN | apply below_drew1 | refine below_set ?_ (IsS49.ge HI191.out) | refine below_set ?_ GE188.out) | exact HB.out))) : w.heap.size ≤ gb195)); have n5_ := Aside0.mk ((by rw [hg]; exact (below_size (by repeat (first | (with_reducible first | exact HB.out | apply below_alloc | apply pw_below_drewN | apply below_drew1 | refine below_set ?_ (IsS49.ge HI191.out) | refine below_set ?_ GE188.out) | exact HB.out))) : w.heap.size ≤ gb195)); have n6_ := Aside0.mk ((by rw [hg]; exact Nat.ne_of_lt (blk_lt (g := gb188) (o := .cells #[.int .i64 0, .bool false] 26 (0, 0)) (by (with_reducible repeat (first | refine blk_drewN ?_ _ | refine blk_drew ?_ | refine blk_alloc ?_ _)); exact BK188.out)) : gb188 ≠ gb195)); have n7_ := Aside0.mk ((by rw [hg]; exact Nat.ne_of_gt (blk_lt (g := gb188) (o := .cells #[.int .i64 0, .bool false] 26 (0, 0)) (by (with_reducible repeat (first | refine blk_drewN ?_ _ | refine blk_drew ?_ | refine blk_alloc ?_ _)); exact BK188.out)) : gb195 ≠ gb188)); have n8_ := Aside0.mk ((by rw [hg]; exact Nat.ne_of_lt (IsS49.lt (show IsS49 w _ g191 t189 t194 from by repeat (first | (with_reducible first | exact HI191.out | apply IsS49.alloc | apply IsS49.drewN | apply IsS49.drew | apply IsS49.set_1 | refine IsS49.far ?_ NB191_188.out _) | exact HI191.out))) : g191 ≠ gb195)); have n9_ := Aside0.mk ((by rw [hg]; exact Nat.ne_of_gt (IsS49.lt (show IsS49 w _ g191 t189 t194 from by repeat (first | (with_reducible first | exact HI191.out | apply IsS49.alloc | apply IsS49.drewN | apply IsS49.drew | apply IsS49.set_1 | refine IsS49.far ?_ NB191_188.out _) | exact HI191.out))) : gb195 ≠ g191)); clear BK188; clear HI191; clear HB; have BK188 := n0_; have HI191 := n1_; have HB := n2_; have BK195 := n3_; have GW195 := n4_; have GE195 := n5_; have NB188_195 := n6_; have NB195_188 := n7_; have NB191_195 := n8_; have NB195_191 := n9_; clear n0_ n1_ n2_ n3_ n4_ n5_ n6_ n7_ n8_ n9_; clear hb hbox hg; have hnb13 := NB195_188.out; have hnc13 := NB188_195.out; have hnb14 := NB195_191.out; have hnc14 := NB191_195.out; have hcz15_0 : w12.cell? ⟨gb195, 0, none⟩ = some (.int .i64 0) := (blk_cell BK195.out 0).trans rfl; have hcz15_1 : w12.cell? ⟨gb195, 1, none⟩ = some (.bool false) := (blk_cell BK195.out 1).trans rfl; have hfz15_0 := blk_frozen BK195.out 0; have hfz15_1 := blk_frozen BK195.out 1) | ((with_reducible refine gate_callee (f := 26) rfl ?_); refine goesL_ (some 12) rfl rfl Try.func26 (by kernel_rfl) rfl #[.pointer (some ⟨g191, 0, none⟩), .int .i64 16] rfl (by (try simp only [List.map_toArray, List.map_cons, List.map_nil]); first | done | rfl | (simp only [List.length_drop, List.length_take]; rfl)) ?_; (with_reducible refine (spec_l6Rd_pick.calls k g191 t189 t194 16 t196 t197 w _ ?side1 ?side2 A4.out).mono ?_); (case side1 => repeat (first | (with_reducible first | exact HI191.out | apply IsS49.alloc | apply IsS49.drewN | apply IsS49.drew | apply IsS49.set_1 | refine IsS49.far ?_ NB191_188.out _ | refine IsS49.far ?_ NB191_195.out _) | exact HI191.out)); (case side2 => repeat (first | (with_reducible first | exact HB.out | apply below_alloc | apply pw_below_drewN | apply below_drew1 | refine below_set ?_ (IsS49.ge HI191.out) | refine below_set ?_ GE188.out | refine below_set ?_ GE195.out) | exact HB.out)); rintro e w16 ⟨rfl, hi, hb, hk⟩; refine ⟨_, rfl, ?_⟩; have n0_ := Aside0.mk (KeepBut.blk hk (g' := gb188) (o := .cells #[.int .i64 0, .bool false] 26 (0, 0)) (by (with_reducible repeat (first | refine blk_drewN ?_ _ | refine blk_drew ?_ | refine blk_alloc ?_ _)); refine blk_far ?_ NB188_195.out _; (with_reducible repeat (first | refine blk_drewN ?_ _ | refine blk_drew ?_ | refine blk_alloc ?_ _)); refine blk_far ?_ NB188_195.out _; (with_reducible repeat (first | refine blk_drewN ?_ _ | refine blk_drew ?_ | refine blk_alloc ?_ _)); exact BK188.out) NB188_191.out (by simp)); have n1_ := Aside0.mk (KeepBut.blk hk (g' := gb195) (o := .cells #[.int .i64 t192, .bool t193] 26 (0, 0)) (by (with_reducible repeat (first | refine blk_drewN ?_ _ | refine blk_drew ?_ | refine blk_alloc ?_ _)); refine blk_put (cs := #[.int .i64 t192, .bool false]) ?_ 1 _ rfl; (with_reducible repeat (first | refine blk_drewN ?_ _ | refine blk_drew ?_ | refine blk_alloc ?_ _)); refine blk_put (cs := #[.int .i64 0, .bool false]) ?_ 0 _ rfl; (with_reducible repeat (first | refine blk_drewN ?_ _ | refine blk_drew ?_ | refine blk_alloc ?_ _)); exact BK195.out) NB195_191.out (by simp)); have n2_ := Aside0.mk (hb); have n3_ := Aside0.mk (hi); clear BK188; clear BK195; clear HB; clear HI191; have BK188 := n0_; have BK195 := n1_; have HB := n2_; have HI191 := n3_; clear n0_ n1_ n2_ n3_; (try clear hb); (try clear hb2); (try clear hk); (try clear hi)))
        have pi203 : (0 ≤ (t201 : Int)) = True := eq_true (of_decide_eq_true (by first | (with_reducible assumption) | assumption))
        have qi203 : (t201 < (y198.length : Int)) = True := eq_true (of_decide_eq_true (by first | (with_reducible assumption) | assumption))
        have n0_ := Aside0.mk (blk_drew BK188.out)
        have n1_ := Aside0.mk (blk_drew BK195.out)
        have n2_ := Aside0.mk (IsS49.drew HI191.out)
        have n3_ := Aside0.mk (below_drew1 HB.out)
        clear BK188
        clear BK195
        clear HI191
        clear HB
        have BK188 := n0_
        have BK195 := n1_
        have HI191 := n2_
        have HB := n3_
        clear n0_ n1_ n2_ n3_
        refine start_ (n := 9) (S := fun w' => True) (ds := []) #[false, false, false, false, false, false, false, false, false] (by kernel_rfl) rfl rfl trivial (fun hHeld => ?_); refine with_tabW spec_DrawToneAbove.tab4 spec_DrawToneAbove.bits4 (fun HT_ HW_ => ?_)
        generalize w16.drew = w17 at BK188 BK195 HI191 HB hHeld ⊢
        refine pure_ (i := 2) (N := some 16) (v := ?_) (a' := ?_) #[false, false, true, false, false, false, false, false, false] rfl rfl (any_of HT_.out (by kernel_rfl)) (fun _ _ _ h => h) (Or.inl ⟨by rfl, ?_⟩) ?_ ?_
        rotate_left
        · intro w'
          go_simp
          with_reducible rfl
        rotate_left
        · simp only [Act.put, List.setIfInBounds_toArray, List.set_cons_zero, List.set_cons_succ, i64_w, i32_w]
          rfl
        refine inv_at [0, 1, 3, 4, 5, 6, 7, 8] (fun a0_ b a w' => ∃ (v199 : Value) (adz_v199 : Addr) (m4_ : Value), a = putSel a0_ b [(0, 14, .agg #[.int .i64 t192, .bool t193]), (1, 15, v199), (3, 17, .int .i64 t201), (4, 18, m4_), (5, 19, .int .i64 (rd y198 t201)), (7, 3, .int .i64 (rd y198 t201)), (8, 4, .bool false)] ∧ (b 6 = false → w'.heap[gb188]? = some (.cells #[.int .i64 0, .bool false] 26 (0, 0))) ∧ (w'.heap[gb195]? = some (.cells #[.int .i64 t192, .bool t193] 26 (0, 0))) ∧ (b 3 = false → IsS49 w w' g191 t189 t197) ∧ (Below w.heap.size w w') ∧ (b 1 = true → Kd.R (Kd.int .i64) 3 w' w.heap.size (fun _ => True) v199 y198) ∧ (b 1 = true → ∃ c_, (v199 : Value) = .slice (some adz_v199) y198.length c_) ∧ (b 3 = true → IsS49 w w' g191 t189 t202) ∧ (b 6 = true → w'.heap[gb188]? = some (.cells #[.int .i64 t192, .bool t193] 26 (0, 0))) ∧ (b 4 = true → (m4_ : Value) = .pointer (some (adz_v199.add (t201).toNat)))) HT_.out HW_.out (by kernel_rfl) (by kernel_rfl) ?_ ?_ ?_
        · exact ⟨.bool false, ⟨0, 0, none⟩, .bool false, by simp only [putSel, Bool.false_eq_true, if_false], fun _ => BK188.out, BK195.out, fun _ => HI191.out, HB.out, fun h_ => absurd h_ (by decide), fun h_ => absurd h_ (by decide), fun h_ => absurd h_ (by decide), fun h_ => absurd h_ (by decide), fun h_ => absurd h_ (by decide)⟩
        · skip
          clear BK188 BK195 HB HI191
          refine steps_cons ?_ ?_
          · rintro b a w' ⟨v199, adz_v199, m4_, ha, Q_BK188, Q_BK195, Q_HI191, Q_HB, Q_HO200, Q_HA_HO200, Q_HI191_e3, Q_BK188_e6, Q_X4_⟩ hb_ hon hoff
            refine ⟨_, rfl, fun K hK => ?_⟩
            have e6 : a.tmps[6]? = some (.pointer (some ⟨gb195, 0, none⟩)) := by rw [ha]; exact (putSel_off rfl).trans rfl
            replace ha := Aside0.mk ha
            have BK188 := Aside0.mk (Q_BK188 (hoff 6 (by kernel_rfl)))
            have BK195 := Aside0.mk Q_BK195
            have HB := Aside0.mk Q_HB
            have hc0_ : w'.cell? ⟨gb195, 0, none⟩ = some (.int .i64 t192) := (blk_cell BK195.out 0).trans rfl
            have hc1_ : w'.cell? ⟨gb195, 1, none⟩ = some (.bool t193) := (blk_cell BK195.out 1).trans rfl
            refine value_ (w1 := w') (v := .agg #[.int .i64 t192, .bool t193]) (by rfl) rfl ?_ ?_
            · go_simp
              (try simp only [i64_w])
              try rfl
            refine hK.out _ _ ⟨v199, adz_v199, m4_, (by rw [ha.out]; exact putSel_upk 0 hb_ rfl rfl rfl), Q_BK188, Q_BK195, Q_HI191, Q_HB, Q_HO200, Q_HA_HO200, Q_HI191_e3, fun h0_ => absurd ((hoff 6 (by kernel_rfl)).symm.trans h0_) (by decide), Q_X4_⟩
          refine steps_cons ?_ ?_
          · rintro b a w' ⟨v199, adz_v199, m4_, ha, Q_BK188, Q_BK195, Q_HI191, Q_HB, Q_HO200, Q_HA_HO200, Q_HI191_e3, Q_BK188_e6, Q_X4_⟩ hb_ hon hoff
            refine ⟨_, rfl, fun K hK => ?_⟩
            replace ha := Aside0.mk ha
            have BK195 := Aside0.mk Q_BK195
            have HB := Aside0.mk Q_HB
            refine Kd.R_lit_step (Kd.int .i64) _ 3 ?hg (N := 15) ?hd (xs := ([9223372036854775807, (-9223372036854775808), 20] : List Int)) (inner := [.int .i64 9223372036854775807, .int .i64 (-9223372036854775808), .int .i64 20]) (ok := fun _ => True) (okp := fun _ => True) ?hr ?hp (fun _ hk => hk) trivial (Below.refl _ _) (Nat.le_refl _) (by simp) ?_; (case hd => rfl); (case hg => rfl); (case hr => first | (go_simp; done) | (go_simp; rfl)); (case hp => exact (Reps.one (show Kd.M (Kd.int .i64) _ _ _ 9223372036854775807 [.int .i64 9223372036854775807] from rfl) (Reps.one (show Kd.M (Kd.int .i64) _ _ _ (-9223372036854775808) [.int .i64 (-9223372036854775808)] from rfl) (Reps.one (show Kd.M (Kd.int .i64) _ _ _ 20 [.int .i64 20] from rfl) (Reps.none _ _)))))
            intro v199 w18 ho19 hb hg_ hnew_
            clear hg_ hnew_
            (first | rw [← Ny198.out] at ho19 | (simp only [Int.reduceToNat] at ho19; rw [← Ny198.out] at ho19))
            have n0_ := Aside0.mk (Kd.R_lower ho19 (below_size (by repeat (first | (with_reducible first | exact HB.out | apply below_alloc | apply pw_below_drewN | apply below_drew1 | refine below_set ?_ GE188.out | refine below_set ?_ GE195.out) | exact HB.out))))
            have n3_ := Aside0.mk (blk_below (g := gb195) (o := .cells #[.int .i64 t192, .bool t193] 26 (0, 0)) (by (with_reducible repeat (first | refine blk_drewN ?_ _ | refine blk_drew ?_ | refine blk_alloc ?_ _)); exact BK195.out) hb)
            have n4_ := Aside0.mk (below_step (by repeat (first | (with_reducible first | exact HB.out | apply below_alloc | apply pw_below_drewN | apply below_drew1 | refine below_set ?_ GE188.out | refine below_set ?_ GE195.out) | exact HB.out)) hb)
            have z_BK188 := fun (h0_ : b 6 = false) => (show w18.heap[gb188]? = some (.cells #[.int .i64 0, .bool false] 26 (0, 0)) from by first | exact (blk_below (g := gb188) (o := .cells #[.int .i64 0, .bool false] 26 (0, 0)) (by (with_reducible repeat (first | refine blk_drewN ?_ _ | refine blk_drew ?_ | refine blk_alloc ?_ _)); exact (Q_BK188 h0_)) hb))
            have z_HI191 := fun (h0_ : b 3 = false) => (show IsS49 w w18 g191 t189 t197 from by first | exact (IsS49.below (by repeat (first | (with_reducible first | exact (Q_HI191 h0_) | apply IsS49.alloc | apply IsS49.drewN | apply IsS49.drew | apply IsS49.set_1 | refine IsS49.far ?_ NB191_188.out _ | refine IsS49.far ?_ NB191_195.out _) | exact (Q_HI191 h0_))) hb))
            have z_HI191_e3 := fun (h0_ : b 3 = true) => (show IsS49 w w18 g191 t189 t202 from by first | exact (IsS49.below (by repeat (first | (with_reducible first | exact (Q_HI191_e3 h0_) | apply IsS49.alloc | apply IsS49.drewN | apply IsS49.drew | apply IsS49.set_1 | refine IsS49.far ?_ NB191_188.out _ | refine IsS49.far ?_ NB191_195.out _) | exact (Q_HI191_e3 h0_))) hb))
            have z_BK188_e6 := fun (h0_ : b 6 = true) => (show w18.heap[gb188]? = some (.cells #[.int .i64 t192, .bool t193] 26 (0, 0)) from by first | exact (blk_below (g := gb188) (o := .cells #[.int .i64 t192, .bool t193] 26 (0, 0)) (by (with_reducible repeat (first | refine blk_drewN ?_ _ | refine blk_drew ?_ | refine blk_alloc ?_ _)); exact (Q_BK188_e6 h0_)) hb))
            clear BK195
            clear HB
            have HO200 := n0_
            have BK195 := n3_
            have HB := n4_
            clear n0_ n3_ n4_
            clear hb ho19
            obtain ⟨Ao20, co20, eo20⟩ := Kd.R_slice HO200.out
            subst eo20
            obtain ⟨ado20, fo20, _⟩ := Kd.at_int (Kd.R_reads' HO200.out).2.2 0 (by decide) (by rw [Ny198.out]; simp)
            cases fo20
            refine hK.out _ _ ⟨.slice (some ado20) y198.length co20, ado20, m4_, (by rw [ha.out]; exact putSel_upk 1 hb_ rfl rfl rfl), z_BK188, (by (with_reducible repeat (first | refine blk_drewN ?_ _ | refine blk_drew ?_ | refine blk_alloc ?_ _)); exact BK195.out), z_HI191, (by repeat (first | (with_reducible first | exact HB.out | apply below_alloc | apply pw_below_drewN | apply below_drew1 | refine below_set ?_ GE188.out | refine below_set ?_ GE195.out) | exact HB.out)), fun _ => (by (with_reducible repeat (first | apply Kd.R_alloc | apply Kd.R_drewN | apply Kd.R_drew)); exact HO200.out), fun _ => ⟨_, rfl⟩, z_HI191_e3, z_BK188_e6, fun h0_ => absurd ((hoff 4 (by kernel_rfl)).symm.trans h0_) (by decide)⟩
          refine steps_cons ?_ ?_
          · rintro b a w' ⟨v199, adz_v199, m4_, ha, Q_BK188, Q_BK195, Q_HI191, Q_HB, Q_HO200, Q_HA_HO200, Q_HI191_e3, Q_BK188_e6, Q_X4_⟩ hb_ hon hoff
            refine ⟨_, rfl, fun K hK => ?_⟩
            have e16 : a.tmps[16]? = some (.pointer (some ⟨g191, 0, none⟩)) := by rw [ha]; exact (putSel_off rfl).trans rfl
            replace ha := Aside0.mk ha
            have BK188 := Aside0.mk (Q_BK188 (hoff 6 (by kernel_rfl)))
            have BK195 := Aside0.mk Q_BK195
            have HI191 := Aside0.mk (Q_HI191 hb_)
            have HB := Aside0.mk Q_HB
            refine goes_ Try.func26 (by kernel_rfl) rfl #[.pointer (some ⟨g191, 0, none⟩), .int .i64 3] (by rfl) rfl rfl (by first | (simp only [List.map_toArray, List.map_cons, List.map_nil, Act.eval, Array.getD_eq_getD_getElem?, Option.getD_some, e16]; done) | (simp only [List.map_toArray, List.map_cons, List.map_nil, Act.eval, Array.getD_eq_getD_getElem?, Option.getD_some, e16]; rfl)) ?_
            with_reducible refine (spec_l6Rd_pick.calls k g191 t189 t197 3 t201 t202 w _ ?side1 ?side2 A6.out).mono ?_
            (case side1 => repeat (first | (with_reducible first | exact HI191.out | apply IsS49.alloc | apply IsS49.drewN | apply IsS49.drew | apply IsS49.set_1 | refine IsS49.far ?_ NB191_188.out _ | refine IsS49.far ?_ NB191_195.out _) | exact HI191.out))
            (case side2 => repeat (first | (with_reducible first | exact HB.out | apply below_alloc | apply pw_below_drewN | apply below_drew1 | refine below_set ?_ (IsS49.ge HI191.out) | refine below_set ?_ GE188.out | refine below_set ?_ GE195.out) | exact HB.out))
            rintro e w18 ⟨rfl, hi, hb, hk⟩
            refine ⟨_, rfl, ?_⟩
            have n0_ := Aside0.mk (KeepBut.blk hk (g' := gb188) (o := .cells #[.int .i64 0, .bool false] 26 (0, 0)) (by (with_reducible repeat (first | refine blk_drewN ?_ _ | refine blk_drew ?_ | refine blk_alloc ?_ _)); exact BK188.out) NB188_191.out (by simp))
            have n1_ := Aside0.mk (KeepBut.blk hk (g' := gb195) (o := .cells #[.int .i64 t192, .bool t193] 26 (0, 0)) (by (with_reducible repeat (first | refine blk_drewN ?_ _ | refine blk_drew ?_ | refine blk_alloc ?_ _)); exact BK195.out) NB195_191.out (by simp))
            have n2_ := Aside0.mk (hb)
            have n3_ := Aside0.mk (hi)
            have z_HO200 := fun (h0_ : b 1 = true) => (show Kd.R (Kd.int .i64) 3 w18 w.heap.size (fun _ => True) v199 y198 from by first | exact (Kd.R_mono (Kd.R_keep (IsS49.apart (show IsS49 w _ g191 t189 t197 from by repeat (first | (with_reducible first | exact HI191.out | apply IsS49.alloc | apply IsS49.drewN | apply IsS49.drew | apply IsS49.set_1 | refine IsS49.far ?_ NB191_188.out _ | refine IsS49.far ?_ NB191_195.out _) | exact HI191.out)) (by (with_reducible repeat (first | apply Kd.R_alloc | apply Kd.R_drewN | apply Kd.R_drew)); exact (Q_HO200 h0_)) (by decide)) hk (fun _ h => h.2)) (fun _ h => h.1)) | exact Kd.R_mono (Kd.R_mono (Kd.R_keep (IsS49.apart (show IsS49 w _ g191 t189 t197 from by repeat (first | (with_reducible first | exact HI191.out | apply IsS49.alloc | apply IsS49.drewN | apply IsS49.drew | apply IsS49.set_1 | refine IsS49.far ?_ NB191_188.out _ | refine IsS49.far ?_ NB191_195.out _) | exact HI191.out)) (by (with_reducible repeat (first | apply Kd.R_alloc | apply Kd.R_drewN | apply Kd.R_drew)); exact (Q_HO200 h0_)) (by decide)) hk (fun _ h => h.2)) (fun _ h => h.1)) (fun _ h_ => by first | trivial | exact h_ | exact h_.1))
            clear BK188
            clear BK195
            clear HB
            clear HI191
            have BK188 := n0_
            have BK195 := n1_
            have HB := n2_
            have HI191 := n3_
            clear n0_ n1_ n2_ n3_
            (try clear hb)
            (try clear hb2)
            (try clear hk)
            (try clear hi)
            refine hK.out _ _ ⟨v199, adz_v199, m4_, (by rw [ha.out]; exact putSel_upk 2 hb_ rfl rfl rfl), fun _ => (by (with_reducible repeat (first | refine blk_drewN ?_ _ | refine blk_drew ?_ | refine blk_alloc ?_ _)); exact BK188.out), (by (with_reducible repeat (first | refine blk_drewN ?_ _ | refine blk_drew ?_ | refine blk_alloc ?_ _)); exact BK195.out), fun h0_ => absurd ((up_self b 3).symm.trans h0_) (by decide), (by repeat (first | (with_reducible first | exact HB.out | apply below_alloc | apply pw_below_drewN | apply below_drew1 | refine below_set ?_ (IsS49.ge HI191.out) | refine below_set ?_ GE188.out | refine below_set ?_ GE195.out) | exact HB.out)), z_HO200, Q_HA_HO200, fun _ => (by repeat (first | (with_reducible first | exact HI191.out | apply IsS49.alloc | apply IsS49.drewN | apply IsS49.drew | apply IsS49.set_1 | refine IsS49.far ?_ NB191_188.out _ | refine IsS49.far ?_ NB191_195.out _) | exact HI191.out)), fun h0_ => absurd ((hoff 6 (by kernel_rfl)).symm.trans h0_) (by decide), fun h0_ => absurd ((hoff 4 (by kernel_rfl)).symm.trans h0_) (by decide)⟩
          refine steps_cons ?_ ?_
          · rintro b a w' ⟨v199, adz_v199, m4_, ha, Q_BK188, Q_BK195, Q_HI191, Q_HB, Q_HO200, Q_HA_HO200, Q_HI191_e3, Q_BK188_e6, Q_X4_⟩ hb_ hon hoff
            refine ⟨_, rfl, fun K hK => ?_⟩
            have e15 : a.tmps[15]? = some (v199) := by rw [ha]; exact putSel_on (e := (1, 15, v199)) 1 rfl rfl (hon 1 (by kernel_rfl)) rfl
            have e17 : a.tmps[17]? = some (.int .i64 t201) := by rw [ha]; exact putSel_on (e := (3, 17, .int .i64 t201)) 2 rfl rfl (hon 3 (by kernel_rfl)) rfl
            replace ha := Aside0.mk ha
            have BK195 := Aside0.mk Q_BK195
            have HB := Aside0.mk Q_HB
            have HO200 := Aside0.mk (Q_HO200 (hon 1 (by kernel_rfl)))
            have HA_HO200 := Aside0.mk (Q_HA_HO200 (hon 1 (by kernel_rfl)))
            have HI191 := Aside0.mk (Q_HI191_e3 (hon 3 (by kernel_rfl)))
            obtain ⟨c_, hv_⟩ := HA_HO200.out
            rw [hv_] at e15
            refine value_ (w1 := w') (v := .pointer (some (adz_v199.add (t201).toNat))) (by rfl) rfl ?_ ?_
            · go_simp
              (try simp only [i64_w])
              try rfl
            refine hK.out _ _ ⟨v199, adz_v199, (.pointer (some (adz_v199.add (t201).toNat))), (by rw [ha.out]; exact putSel_upk 3 hb_ rfl rfl rfl), Q_BK188, Q_BK195, fun h0_ => absurd ((hon 3 (by kernel_rfl)).symm.trans h0_) (by decide), Q_HB, Q_HO200, Q_HA_HO200, Q_HI191_e3, Q_BK188_e6, fun _ => rfl⟩
          refine steps_cons ?_ ?_
          · rintro b a w' ⟨v199, adz_v199, m4_, ha, Q_BK188, Q_BK195, Q_HI191, Q_HB, Q_HO200, Q_HA_HO200, Q_HI191_e3, Q_BK188_e6, Q_X4_⟩ hb_ hon hoff
            refine ⟨_, rfl, fun K hK => ?_⟩
            have e18 : a.tmps[18]? = some (m4_) := by rw [ha]; exact putSel_on (e := (4, 18, m4_)) 3 rfl rfl (hon 4 (by kernel_rfl)) rfl
            rw [Q_X4_ (hon 4 (by kernel_rfl))] at e18
            replace ha := Aside0.mk ha
            have BK195 := Aside0.mk Q_BK195
            have HB := Aside0.mk Q_HB
            have HO200 := Aside0.mk (Q_HO200 (hon 1 (by kernel_rfl)))
            have HA_HO200 := Aside0.mk (Q_HA_HO200 (hon 1 (by kernel_rfl)))
            have HI191 := Aside0.mk (Q_HI191_e3 (hon 3 (by kernel_rfl)))
            obtain ⟨c_, hv_⟩ := HA_HO200.out
            have hF_ := HO200.out
            rw [hv_] at hF_
            obtain ⟨ad_, ea_, hx_⟩ := Kd.at_int (Kd.R_reads' hF_).2.2 t201 (of_eq_true pi203) (of_eq_true qi203)
            cases ea_
            refine value_ (w1 := w') (v := .int .i64 (rd y198 t201)) (by rfl) rfl ?_ ?_
            · go_simp
              (try simp only [i64_w])
              try rfl
            refine hK.out _ _ ⟨v199, adz_v199, m4_, (by rw [ha.out]; exact putSel_upk 4 hb_ rfl rfl rfl), Q_BK188, Q_BK195, fun h0_ => absurd ((hon 3 (by kernel_rfl)).symm.trans h0_) (by decide), Q_HB, Q_HO200, Q_HA_HO200, Q_HI191_e3, Q_BK188_e6, Q_X4_⟩
          refine steps_cons ?_ ?_
          · rintro b a w' ⟨v199, adz_v199, m4_, ha, Q_BK188, Q_BK195, Q_HI191, Q_HB, Q_HO200, Q_HA_HO200, Q_HI191_e3, Q_BK188_e6, Q_X4_⟩ hb_ hon hoff
            refine ⟨_, rfl, fun K hK => ?_⟩
            have e2 : a.tmps[2]? = some (.pointer (some ⟨gb188, 0, none⟩)) := by rw [ha]; exact (putSel_off rfl).trans rfl
            have e14 : a.tmps[14]? = some (.agg #[.int .i64 t192, .bool t193]) := by rw [ha]; exact putSel_on (e := (0, 14, .agg #[.int .i64 t192, .bool t193])) 0 rfl rfl (hon 0 (by kernel_rfl)) rfl
            replace ha := Aside0.mk ha
            have BK188 := Aside0.mk (Q_BK188 hb_)
            have BK195 := Aside0.mk Q_BK195
            have HB := Aside0.mk Q_HB
            have HI191 := Aside0.mk (Q_HI191_e3 (hon 3 (by kernel_rfl)))
            have hs20 : w'.cell? ⟨gb188, 0, none⟩ = some (.int .i64 0) := (blk_cell BK188.out 0).trans rfl
            have hfs20 := blk_frozen BK188.out 0
            have hns20_1 := NB195_188.out
            have hms20_1 := NB188_195.out
            have hs21 : w'.cell? ⟨gb188, 1, none⟩ = some (.bool false) := (blk_cell BK188.out 1).trans rfl
            have hfs21 := blk_frozen BK188.out 1
            have hns21_1 := NB195_188.out
            have hms21_1 := NB188_195.out
            refine skip_ (w1 := ?_) (by rfl) rfl ?_ ?_
            rotate_left
            · go_simp
              rfl
            refine hK.out _ _ ⟨v199, adz_v199, m4_, (by rw [ha.out]; exact putSel_none (v := undef) rfl), fun h0_ => absurd ((up_self b 6).symm.trans h0_) (by decide), (by (with_reducible repeat (first | refine blk_drewN ?_ _ | refine blk_drew ?_ | refine blk_alloc ?_ _)); refine blk_far ?_ NB195_188.out _; (with_reducible repeat (first | refine blk_drewN ?_ _ | refine blk_drew ?_ | refine blk_alloc ?_ _)); refine blk_far ?_ NB195_188.out _; (with_reducible repeat (first | refine blk_drewN ?_ _ | refine blk_drew ?_ | refine blk_alloc ?_ _)); exact BK195.out), fun h0_ => absurd ((hon 3 (by kernel_rfl)).symm.trans h0_) (by decide), (by repeat (first | (with_reducible first | exact HB.out | apply below_alloc | apply pw_below_drewN | apply below_drew1 | refine below_set ?_ (IsS49.ge HI191.out) | refine below_set ?_ GE188.out | refine below_set ?_ GE195.out) | exact HB.out)), fun h0_ => (by (with_reducible repeat (first | apply Kd.R_alloc | apply Kd.R_drewN | apply Kd.R_drew)); exact Kd.R_mono (Kd.R_far (p := ⟨gb188, 1, none⟩) (Kd.R_far (p := ⟨gb188, 0, none⟩) (Kd.R_types (Q_HO200 h0_) BK188.out (by decide)) (fun _ hk => hk.2) (.int .i64 t192)) (fun _ hk => hk.2) (.bool t193)) (fun _ hk => trivial)), Q_HA_HO200, fun _ => (by repeat (first | (with_reducible first | exact HI191.out | apply IsS49.alloc | apply IsS49.drewN | apply IsS49.drew | apply IsS49.set_1 | refine IsS49.far ?_ NB191_188.out _ | refine IsS49.far ?_ NB191_195.out _) | exact HI191.out)), fun _ => (by (with_reducible repeat (first | refine blk_drewN ?_ _ | refine blk_drew ?_ | refine blk_alloc ?_ _)); refine blk_put (cs := #[.int .i64 t192, .bool false]) ?_ 1 _ rfl; (with_reducible repeat (first | refine blk_drewN ?_ _ | refine blk_drew ?_ | refine blk_alloc ?_ _)); refine blk_put (cs := #[.int .i64 0, .bool false]) ?_ 0 _ rfl; (with_reducible repeat (first | refine blk_drewN ?_ _ | refine blk_drew ?_ | refine blk_alloc ?_ _)); exact BK188.out), Q_X4_⟩
          refine steps_cons ?_ ?_
          · rintro b a w' ⟨v199, adz_v199, m4_, ha, Q_BK188, Q_BK195, Q_HI191, Q_HB, Q_HO200, Q_HA_HO200, Q_HI191_e3, Q_BK188_e6, Q_X4_⟩ hb_ hon hoff
            refine ⟨_, rfl, fun K hK => ?_⟩
            have e19 : a.tmps[19]? = some (.int .i64 (rd y198 t201)) := by rw [ha]; exact putSel_on (e := (5, 19, .int .i64 (rd y198 t201))) 4 rfl rfl (hon 5 (by kernel_rfl)) rfl
            replace ha := Aside0.mk ha
            have BK195 := Aside0.mk Q_BK195
            have HB := Aside0.mk Q_HB
            have HO200 := Aside0.mk (Q_HO200 (hon 1 (by kernel_rfl)))
            have HA_HO200 := Aside0.mk (Q_HA_HO200 (hon 1 (by kernel_rfl)))
            have HI191 := Aside0.mk (Q_HI191_e3 (hon 3 (by kernel_rfl)))
            have BK188 := Aside0.mk (Q_BK188_e6 (hon 6 (by kernel_rfl)))
            refine value_ (w1 := w') (v := .int .i64 (rd y198 t201)) (by rfl) rfl ?_ ?_
            · go_simp
              (try simp only [i64_w])
              try rfl
            refine hK.out _ _ ⟨v199, adz_v199, m4_, (by rw [ha.out]; exact putSel_upk 5 hb_ rfl rfl rfl), fun h0_ => absurd ((hon 6 (by kernel_rfl)).symm.trans h0_) (by decide), Q_BK195, fun h0_ => absurd ((hon 3 (by kernel_rfl)).symm.trans h0_) (by decide), Q_HB, Q_HO200, Q_HA_HO200, Q_HI191_e3, Q_BK188_e6, Q_X4_⟩
          refine steps_cons ?_ ?_
          · rintro b a w' ⟨v199, adz_v199, m4_, ha, Q_BK188, Q_BK195, Q_HI191, Q_HB, Q_HO200, Q_HA_HO200, Q_HI191_e3, Q_BK188_e6, Q_X4_⟩ hb_ hon hoff
            refine ⟨_, rfl, fun K hK => ?_⟩
            replace ha := Aside0.mk ha
            have BK195 := Aside0.mk Q_BK195
            have HB := Aside0.mk Q_HB
            have HO200 := Aside0.mk (Q_HO200 (hon 1 (by kernel_rfl)))
            have HA_HO200 := Aside0.mk (Q_HA_HO200 (hon 1 (by kernel_rfl)))
            have HI191 := Aside0.mk (Q_HI191_e3 (hon 3 (by kernel_rfl)))
            have BK188 := Aside0.mk (Q_BK188_e6 (hon 6 (by kernel_rfl)))
            refine value_ (w1 := w') (v := .bool false) (by rfl) rfl ?_ ?_
            · go_simp
              (try simp only [i64_w])
              try rfl
            refine hK.out _ _ ⟨v199, adz_v199, m4_, (by rw [ha.out]; exact putSel_upk 6 hb_ rfl rfl rfl), fun h0_ => absurd ((hon 6 (by kernel_rfl)).symm.trans h0_) (by decide), Q_BK195, fun h0_ => absurd ((hon 3 (by kernel_rfl)).symm.trans h0_) (by decide), Q_HB, Q_HO200, Q_HA_HO200, Q_HI191_e3, Q_BK188_e6, Q_X4_⟩
          exact steps_nil
        rintro b a w24 hall ⟨v199, adz_v199, m4_, ha, Q_BK188, Q_BK195, Q_HI191, Q_HB, Q_HO200, Q_HA_HO200, Q_HI191_e3, Q_BK188_e6, Q_X4_⟩
        clear BK188 BK195 HB HI191
        have hb0_ := hall 0 (by kernel_rfl)
        have hb1_ := hall 1 (by kernel_rfl)
        have hb3_ := hall 3 (by kernel_rfl)
        have hb4_ := hall 4 (by kernel_rfl)
        have hb5_ := hall 5 (by kernel_rfl)
        have hb6_ := hall 6 (by kernel_rfl)
        have hb7_ := hall 7 (by kernel_rfl)
        have hb8_ := hall 8 (by kernel_rfl)
        subst ha
        obtain rfl := Q_X4_ hb4_
        simp only [putSel, hb0_, hb1_, hb3_, hb4_, hb5_, hb6_, hb7_, hb8_, if_true, Act.put, List.setIfInBounds_toArray, List.set_cons_zero, List.set_cons_succ]
        clear Q_BK188
        have BK195 := Aside0.mk Q_BK195
        clear Q_BK195
        clear Q_HI191
        have HB := Aside0.mk Q_HB
        clear Q_HB
        have HO200 := Aside0.mk (Q_HO200 hb1_)
        clear Q_HO200
        have HA_HO200 := Aside0.mk (Q_HA_HO200 hb1_)
        clear Q_HA_HO200
        have HI191 := Aside0.mk (Q_HI191_e3 hb3_)
        clear Q_HI191_e3
        have BK188 := Aside0.mk (Q_BK188_e6 hb6_)
        clear Q_BK188_e6
        clear hall hb0_ hb1_ hb3_ hb4_ hb5_ hb6_ hb7_ hb8_
        obtain ⟨co25, eo25⟩ := HA_HO200.out
        clear HA_HO200
        subst eo25
        try go_wp2
        refine bodyPost_ret (results_ctt rfl _ _ gb188 26 #[.int .i64 t192, .bool t193] (0, 0) _ rfl (by (with_reducible repeat (first | refine blk_drewN ?_ _ | refine blk_drew ?_ | refine blk_alloc ?_ _)); exact BK188.out) Try.underlying26 rfl (by kernel_rfl)) rfl ?_
        exact ⟨by first | rfl | (simp [errW_none, errW_some] <;> rfl) | (simp [*, errW_none, errW_some] <;> rfl), by repeat (first | (with_reducible first | exact HB.out | apply below_alloc | apply pw_below_drewN | apply below_drew1 | refine below_set ?_ (IsS49.ge HI191.out) | refine below_set ?_ GE188.out | refine below_set ?_ GE195.out) | exact HB.out)⟩
      · rw [if_neg c8] at H
        exact absurd H (by simp)
    · rw [if_neg c7] at H
      exact absurd H (by simp)
  · rw [if_neg c5] at H
    have c5b0 : (t196 == 0) = false := beq_eq_false_iff_ne.mpr c5
    have c5b1 : (t196 != 0) = true := bne_iff_ne.mpr c5
    replace H := Option.bind_eq_some_iff.mp H
    obtain ⟨⟨t204, t205⟩, A260, H⟩ := H
    replace H : ((spec_l6Rd_pick.f k t189 t205 4).bind fun bt206 => (some (t192, t193, wrap64 (t204 - 8), (bt206.1 == 0)))) = some (r1, r2, r3, r4) := H
    have A26 := Aside0.mk A260
    clear A260
    replace H := Option.bind_eq_some_iff.mp H
    obtain ⟨⟨t206, t207⟩, A270, H⟩ := H
    replace H : (some (t192, t193, wrap64 (t204 - 8), (t206 == 0))) = some (r1, r2, r3, r4) := H
    have A27 := Aside0.mk A270
    clear A270
    simp only [Option.some.injEq, Prod.mk.injEq] at H
    obtain ⟨rfl, rfl, rfl, rfl⟩ := H
    go_enter Try.func21, Try.ntmps21
    try go_wp2_with (first | ((with_reducible refine gate_dst (N := 2) rfl ?_); refine box_event ?hg (N := 2) ?hd (cs := #[.int .i64 0, .bool false]) (t := 26) ?hr ?_; (case hd => rfl); (case hg => rfl); (case hr => first | (go_simp; done) | (go_simp; rfl)); intro gb188 hg w28 hbox hb; have n0_ := Aside0.mk (below_step (by repeat (first | (with_reducible first | exact HB.out | apply below_alloc | apply pw_below_drewN | apply below_drew1) | exact HB.out)) hb); have n1_ := Aside0.mk (hbox); have n2_ := Aside0.mk ((by rw [hg]; exact (below_size (by repeat (first | (with_reducible first | exact HB.out | apply below_alloc | apply pw_below_drewN | apply below_drew1) | exact HB.out))) : w.heap.size ≤ gb188)); have n3_ := Aside0.mk ((by rw [hg]; exact (below_size (by repeat (first | (with_reducible first | exact HB.out | apply below_alloc | apply pw_below_drewN | apply below_drew1) | exact HB.out))) : w.heap.size ≤ gb188)); clear HB; have HB := n0_; have BK188 := n1_; have GW188 := n2_; have GE188 := n3_; clear n0_ n1_ n2_ n3_; clear hb hbox hg) | ((with_reducible refine gate_callee (f := 25) rfl ?_); refine goesL_ (some 8) rfl rfl Try.func25 (by kernel_rfl) rfl #[.slice A0 l0.length c0] rfl (by (try simp only [List.map_toArray, List.map_cons, List.map_nil]); first | done | rfl | (simp only [List.length_drop, List.length_take]; rfl)) ?_; (with_reducible refine (spec_l6Open.calls _ _ l0 t189 t190 w _ ?side1 ?side2 ?side3 A2.out).mono ?_); (case side1 => repeat (first | (with_reducible first | exact HB.out | apply below_alloc | apply pw_below_drewN | apply below_drew1 | refine below_set ?_ GE188.out) | exact HB.out)); (case side2 => exact HR0.out); (case side3 => exact HC0.out); rintro e w29 ⟨g191, rfl, hi, hb, hb2⟩; refine ⟨_, rfl, ?_⟩; have n0_ := Aside0.mk (blk_below (g := gb188) (o := .cells #[.int .i64 0, .bool false] 26 (0, 0)) (by (with_reducible repeat (first | refine blk_drewN ?_ _ | refine blk_drew ?_ | refine blk_alloc ?_ _)); exact BK188.out) hb2); have n1_ := Aside0.mk (hb); have n2_ := Aside0.mk (hi); have n3_ := Aside0.mk (IsS49.ne_blk hi (blk_below (g := gb188) (o := .cells #[.int .i64 0, .bool false] 26 (0, 0)) (by (with_reducible repeat (first | refine blk_drewN ?_ _ | refine blk_drew ?_ | refine blk_alloc ?_ _)); exact BK188.out) hb2) (by decide)); have n4_ := Aside0.mk (Ne.symm (IsS49.ne_blk hi (blk_below (g := gb188) (o := .cells #[.int .i64 0, .bool false] 26 (0, 0)) (by (with_reducible repeat (first | refine blk_drewN ?_ _ | refine blk_drew ?_ | refine blk_alloc ?_ _)); exact BK188.out) hb2) (by decide))); clear BK188; clear HB; have BK188 := n0_; have HB := n1_; have HI191 := n2_; have NB191_188 := n3_; have NB188_191 := n4_; clear n0_ n1_ n2_ n3_ n4_; (try clear hb); (try clear hb2); (try clear hk); (try clear hi)) | ((with_reducible refine gate_callee (f := 27) rfl ?_); refine goesL_ (some 10) rfl rfl Try.func27 (by kernel_rfl) rfl #[.pointer (some ⟨g191, 0, none⟩)] rfl (by (try simp only [List.map_toArray, List.map_cons, List.map_nil]); first | done | rfl | (simp only [List.length_drop, List.length_take]; rfl)) ?_; (with_reducible refine (spec_l91Tone.calls k g191 t189 t190 t192 t193 t194 w _ ?side1 ?side2 A3.out).mono ?_); (case side1 => repeat (first | (with_reducible first | exact HI191.out | apply IsS49.alloc | apply IsS49.drewN | apply IsS49.drew | apply IsS49.set_1 | refine IsS49.far ?_ NB191_188.out _) | exact HI191.out)); (case side2 => repeat (first | (with_reducible first | exact HB.out | apply below_alloc | apply pw_below_drewN | apply below_drew1 | refine below_set ?_ (IsS49.ge HI191.out) | refine below_set ?_ GE188.out) | exact HB.out)); rintro e w30 ⟨rfl, hi, hb, hk⟩; refine ⟨_, rfl, ?_⟩; have n0_ := Aside0.mk (KeepBut.blk hk (g' := gb188) (o := .cells #[.int .i64 0, .bool false] 26 (0, 0)) (by (with_reducible repeat (first | refine blk_drewN ?_ _ | refine blk_drew ?_ | refine blk_alloc ?_ _)); exact BK188.out) NB188_191.out (by simp)); have n1_ := Aside0.mk (hb); have n2_ := Aside0.mk (hi); clear BK188; clear HB; clear HI191; have BK188 := n0_; have HB := n1_; have HI191 := n2_; clear n0_ n1_ n2_; (try clear hb); (try clear hb2); (try clear hk); (try clear hi)) | ((with_reducible refine gate_dst (N := 6) rfl ?_); refine box_event ?hg (N := 6) ?hd (cs := #[.int .i64 0, .bool false]) (t := 26) ?hr ?_; (case hd => rfl); (case hg => rfl); (case hr => first | (go_simp; done) | (go_simp; rfl)); intro gb195 hg w31 hbox hb; have n0_ := Aside0.mk (blk_below (g := gb188) (o := .cells #[.int .i64 0, .bool false] 26 (0, 0)) (by (with_reducible repeat (first | refine blk_drewN ?_ _ | refine blk_drew ?_ | refine blk_alloc ?_ _)); exact BK188.out) hb); have n1_ := Aside0.mk (IsS49.below (by repeat (first | (with_reducible first | exact HI191.out | apply IsS49.alloc | apply IsS49.drewN | apply IsS49.drew | apply IsS49.set_1 | refine IsS49.far ?_ NB191_188.out _) | exact HI191.out)) hb); have n2_ := Aside0.mk (below_step (by repeat (first | (with_reducible first | exact HB.out | apply below_alloc | apply pw_below_drewN | apply below_drew1 | refine below_set ?_ (IsS49.ge HI191.out) | refine below_set ?_ GE188.out) | exact HB.out)) hb); have n3_ := Aside0.mk (hbox); have n4_ := Aside0.mk ((by rw [hg]; exact (below_size (by repeat (first | (with_reducible first | exact HB.out | apply below_alloc | apply pw_below_drewN | apply below_drew1 | refine below_set ?_ (IsS49.ge HI191.out) | refine below_set ?_ GE188.out) | exact HB.out))) : w.heap.size ≤ gb195)); have n5_ := Aside0.mk ((by rw [hg]; exact (below_size (by repeat (first | (with_reducible first | exact HB.out | apply below_alloc | apply pw_below_drewN | apply below_drew1 | refine below_set ?_ (IsS49.ge HI191.out) | refine below_set ?_ GE188.out) | exact HB.out))) : w.heap.size ≤ gb195)); have n6_ := Aside0.mk ((by rw [hg]; exact Nat.ne_of_lt (blk_lt (g := gb188) (o := .cells #[.int .i64 0, .bool false] 26 (0, 0)) (by (with_reducible repeat (first | refine blk_drewN ?_ _ | refine blk_drew ?_ | refine blk_alloc ?_ _)); exact BK188.out)) : gb188 ≠ gb195)); have n7_ := Aside0.mk ((by rw [hg]; exact Nat.ne_of_gt (blk_lt (g := gb188) (o := .cells #[.int .i64 0, .bool false] 26 (0, 0)) (by (with_reducible repeat (first | refine blk_drewN ?_ _ | refine blk_drew ?_ | refine blk_alloc ?_ _)); exact BK188.out)) : gb195 ≠ gb188)); have n8_ := Aside0.mk ((by rw [hg]; exact Nat.ne_of_lt (IsS49.lt (show IsS49 w _ g191 t189 t194 from by repeat (first | (with_reducible first | exact HI191.out | apply IsS49.alloc | apply IsS49.drewN | apply IsS49.drew | apply IsS49.set_1 | refine IsS49.far ?_ NB191_188.out _) | exact HI191.out))) : g191 ≠ gb195)); have n9_ := Aside0.mk ((by rw [hg]; exact Nat.ne_of_gt (IsS49.lt (show IsS49 w _ g191 t189 t194 from by repeat (first | (with_reducible first | exact HI191.out | apply IsS49.alloc | apply IsS49.drewN | apply IsS49.drew | apply IsS49.set_1 | refine IsS49.far ?_ NB191_188.out _) | exact HI191.out))) : gb195 ≠ g191)); clear BK188; clear HI191; clear HB; have BK188 := n0_; have HI191 := n1_; have HB := n2_; have BK195 := n3_; have GW195 := n4_; have GE195 := n5_; have NB188_195 := n6_; have NB195_188 := n7_; have NB191_195 := n8_; have NB195_191 := n9_; clear n0_ n1_ n2_ n3_ n4_ n5_ n6_ n7_ n8_ n9_; clear hb hbox hg; have hnb32 := NB195_188.out; have hnc32 := NB188_195.out; have hnb33 := NB195_191.out; have hnc33 := NB191_195.out; have hcz34_0 : w31.cell? ⟨gb195, 0, none⟩ = some (.int .i64 0) := (blk_cell BK195.out 0).trans rfl; have hcz34_1 : w31.cell? ⟨gb195, 1, none⟩ = some (.bool false) := (blk_cell BK195.out 1).trans rfl; have hfz34_0 := blk_frozen BK195.out 0; have hfz34_1 := blk_frozen BK195.out 1) | ((with_reducible refine gate_callee (f := 26) rfl ?_); refine goesL_ (some 12) rfl rfl Try.func26 (by kernel_rfl) rfl #[.pointer (some ⟨g191, 0, none⟩), .int .i64 16] rfl (by (try simp only [List.map_toArray, List.map_cons, List.map_nil]); first | done | rfl | (simp only [List.length_drop, List.length_take]; rfl)) ?_; (with_reducible refine (spec_l6Rd_pick.calls k g191 t189 t194 16 t196 t197 w _ ?side1 ?side2 A4.out).mono ?_); (case side1 => repeat (first | (with_reducible first | exact HI191.out | apply IsS49.alloc | apply IsS49.drewN | apply IsS49.drew | apply IsS49.set_1 | refine IsS49.far ?_ NB191_188.out _ | refine IsS49.far ?_ NB191_195.out _) | exact HI191.out)); (case side2 => repeat (first | (with_reducible first | exact HB.out | apply below_alloc | apply pw_below_drewN | apply below_drew1 | refine below_set ?_ (IsS49.ge HI191.out) | refine below_set ?_ GE188.out | refine below_set ?_ GE195.out) | exact HB.out)); rintro e w35 ⟨rfl, hi, hb, hk⟩; refine ⟨_, rfl, ?_⟩; have n0_ := Aside0.mk (KeepBut.blk hk (g' := gb188) (o := .cells #[.int .i64 0, .bool false] 26 (0, 0)) (by (with_reducible repeat (first | refine blk_drewN ?_ _ | refine blk_drew ?_ | refine blk_alloc ?_ _)); refine blk_far ?_ NB188_195.out _; (with_reducible repeat (first | refine blk_drewN ?_ _ | refine blk_drew ?_ | refine blk_alloc ?_ _)); refine blk_far ?_ NB188_195.out _; (with_reducible repeat (first | refine blk_drewN ?_ _ | refine blk_drew ?_ | refine blk_alloc ?_ _)); exact BK188.out) NB188_191.out (by simp)); have n1_ := Aside0.mk (KeepBut.blk hk (g' := gb195) (o := .cells #[.int .i64 t192, .bool t193] 26 (0, 0)) (by (with_reducible repeat (first | refine blk_drewN ?_ _ | refine blk_drew ?_ | refine blk_alloc ?_ _)); refine blk_put (cs := #[.int .i64 t192, .bool false]) ?_ 1 _ rfl; (with_reducible repeat (first | refine blk_drewN ?_ _ | refine blk_drew ?_ | refine blk_alloc ?_ _)); refine blk_put (cs := #[.int .i64 0, .bool false]) ?_ 0 _ rfl; (with_reducible repeat (first | refine blk_drewN ?_ _ | refine blk_drew ?_ | refine blk_alloc ?_ _)); exact BK195.out) NB195_191.out (by simp)); have n2_ := Aside0.mk (hb); have n3_ := Aside0.mk (hi); clear BK188; clear BK195; clear HB; clear HI191; have BK188 := n0_; have BK195 := n1_; have HB := n2_; have HI191 := n3_; clear n0_ n1_ n2_ n3_; (try clear hb); (try clear hb2); (try clear hk); (try clear hi)))
    have n0_ := Aside0.mk (blk_drew BK188.out)
    have n1_ := Aside0.mk (blk_drew BK195.out)
    have n2_ := Aside0.mk (IsS49.drew HI191.out)
    have n3_ := Aside0.mk (below_drew1 HB.out)
    clear BK188
    clear BK195
    clear HI191
    clear HB
    have BK188 := n0_
    have BK195 := n1_
    have HI191 := n2_
    have HB := n3_
    clear n0_ n1_ n2_ n3_
    refine start_ (n := 10) (S := fun w' => w'.cell? ⟨gb195, 0, none⟩ = some (.int .i64 t192) ∧ w'.cell? ⟨gb195, 1, none⟩ = some (.bool t193)) (ds := []) #[false, false, false, false, false, false, false, false, false, false] (by kernel_rfl) rfl rfl ⟨(blk_cell BK195.out 0).trans rfl, (blk_cell BK195.out 1).trans rfl⟩ (fun hHeld => ?_); refine with_tabW spec_DrawToneAbove.tab5 spec_DrawToneAbove.bits5 (fun HT_ HW_ => ?_)
    generalize w35.drew = w36 at BK188 BK195 HI191 HB hHeld ⊢
    refine pure_ (i := 1) (N := some 21) (v := ?_) (a' := ?_) #[false, true, false, false, false, false, false, false, false, false] rfl rfl (any_of HT_.out (by kernel_rfl)) (fun _ _ _ h => h) (Or.inl ⟨by rfl, ?_⟩) ?_ ?_
    rotate_left
    · intro w'
      go_simp
      with_reducible rfl
    rotate_left
    · simp only [Act.put, List.setIfInBounds_toArray, List.set_cons_zero, List.set_cons_succ, i64_w, i32_w]
      rfl
    refine pure_ (i := 4) (N := some 24) (v := ?_) (a' := ?_) #[false, true, false, false, true, false, false, false, false, false] rfl rfl (any_of HT_.out (by kernel_rfl)) (fun _ _ _ h => h) (Or.inl ⟨by rfl, ?_⟩) ?_ ?_
    rotate_left
    · intro w'
      go_simp
      with_reducible rfl
    rotate_left
    · simp only [Act.put, List.setIfInBounds_toArray, List.set_cons_zero, List.set_cons_succ, i64_w, i32_w]
      rfl
    refine take_ (i := 0) (N := some 20) (v := ?_) (a' := ?_) #[true, true, false, false, true, false, false, false, false, false] rfl rfl (take_ofW HT_.out HW_.out (by kernel_rfl)) (fun _ _ _ h => h) (Or.inl ⟨by rfl, ?_⟩) hHeld ?_ ?_
    rotate_left
    · rintro w' ⟨s0, s1⟩
      go_simp
      with_reducible rfl
    rotate_left
    · simp only [Act.put, List.setIfInBounds_toArray, List.set_cons_zero, List.set_cons_succ, i64_w, i32_w]
      rfl
    refine one_ (i := 2) (N := some 22) #[true, true, true, false, true, false, false, false, false, false] rfl rfl (one_of HT_.out (by kernel_rfl)) (by decide) (fun K hK => ?_)
    refine goes_ Try.func26 (by kernel_rfl) rfl #[.pointer (some ⟨g191, 0, none⟩), .int .i64 17] (by rfl) rfl rfl (by (try simp only [List.map_toArray, List.map_cons, List.map_nil]); first | done | rfl | (simp only [List.length_drop, List.length_take]; rfl)) ?_
    with_reducible refine (spec_l6Rd_pick.calls k g191 t189 t197 17 t204 t205 w _ ?side1 ?side2 A26.out).mono ?_
    (case side1 => repeat (first | (with_reducible first | exact HI191.out | apply IsS49.alloc | apply IsS49.drewN | apply IsS49.drew | apply IsS49.set_1 | refine IsS49.far ?_ NB191_188.out _ | refine IsS49.far ?_ NB191_195.out _) | exact HI191.out))
    (case side2 => repeat (first | (with_reducible first | exact HB.out | apply below_alloc | apply pw_below_drewN | apply below_drew1 | refine below_set ?_ (IsS49.ge HI191.out) | refine below_set ?_ GE188.out | refine below_set ?_ GE195.out) | exact HB.out))
    rintro e w37 ⟨rfl, hi, hb, hk⟩
    refine ⟨_, rfl, ?_⟩
    have n0_ := Aside0.mk (KeepBut.blk hk (g' := gb188) (o := .cells #[.int .i64 0, .bool false] 26 (0, 0)) (by (with_reducible repeat (first | refine blk_drewN ?_ _ | refine blk_drew ?_ | refine blk_alloc ?_ _)); exact BK188.out) NB188_191.out (by simp))
    have n1_ := Aside0.mk (KeepBut.blk hk (g' := gb195) (o := .cells #[.int .i64 t192, .bool t193] 26 (0, 0)) (by (with_reducible repeat (first | refine blk_drewN ?_ _ | refine blk_drew ?_ | refine blk_alloc ?_ _)); exact BK195.out) NB195_191.out (by simp))
    have n2_ := Aside0.mk (hb)
    have n3_ := Aside0.mk (hi)
    clear BK188
    clear BK195
    clear HB
    clear HI191
    have BK188 := n0_
    have BK195 := n1_
    have HB := n2_
    have HI191 := n3_
    clear n0_ n1_ n2_ n3_
    (try clear hb)
    (try clear hb2)
    (try clear hk)
    (try clear hi)
    refine hK.out _ _ ⟨(blk_cell BK195.out 0).trans rfl, (blk_cell BK195.out 1).trans rfl⟩ (fun hHeld => ?_)
    clear hK K
    refine norm_ (a' := ?_) ?_ ?_
    rotate_left
    · show Act.put _ (some 22) _ = _
      simp only [Act.put, List.setIfInBounds_toArray, List.set_cons_zero, List.set_cons_succ, i64_w, i32_w]
      rfl
    refine pure_ (i := 3) (N := some 23) (v := ?_) (a' := ?_) #[true, true, true, true, true, false, false, false, false, false] rfl rfl (any_of HT_.out (by kernel_rfl)) (fun _ _ _ h => h) (Or.inl ⟨by rfl, ?_⟩) ?_ ?_
    rotate_left
    · intro w'
      go_simp
      with_reducible rfl
    rotate_left
    · simp only [Act.put, List.setIfInBounds_toArray, List.set_cons_zero, List.set_cons_succ, i64_w, i32_w]
      rfl
    refine one_ (i := 5) (N := some 25) #[true, true, true, true, true, true, false, false, false, false] rfl rfl (one_of HT_.out (by kernel_rfl)) (by decide) (fun K hK => ?_)
    refine goes_ Try.func26 (by kernel_rfl) rfl #[.pointer (some ⟨g191, 0, none⟩), .int .i64 4] (by rfl) rfl rfl (by (try simp only [List.map_toArray, List.map_cons, List.map_nil]); first | done | rfl | (simp only [List.length_drop, List.length_take]; rfl)) ?_
    with_reducible refine (spec_l6Rd_pick.calls k g191 t189 t205 4 t206 t207 w _ ?side1 ?side2 A27.out).mono ?_
    (case side1 => repeat (first | (with_reducible first | exact HI191.out | apply IsS49.alloc | apply IsS49.drewN | apply IsS49.drew | apply IsS49.set_1 | refine IsS49.far ?_ NB191_188.out _ | refine IsS49.far ?_ NB191_195.out _) | exact HI191.out))
    (case side2 => repeat (first | (with_reducible first | exact HB.out | apply below_alloc | apply pw_below_drewN | apply below_drew1 | refine below_set ?_ (IsS49.ge HI191.out) | refine below_set ?_ GE188.out | refine below_set ?_ GE195.out) | exact HB.out))
    rintro e w38 ⟨rfl, hi, hb, hk⟩
    refine ⟨_, rfl, ?_⟩
    have n0_ := Aside0.mk (KeepBut.blk hk (g' := gb188) (o := .cells #[.int .i64 0, .bool false] 26 (0, 0)) (by (with_reducible repeat (first | refine blk_drewN ?_ _ | refine blk_drew ?_ | refine blk_alloc ?_ _)); exact BK188.out) NB188_191.out (by simp))
    have n1_ := Aside0.mk (KeepBut.blk hk (g' := gb195) (o := .cells #[.int .i64 t192, .bool t193] 26 (0, 0)) (by (with_reducible repeat (first | refine blk_drewN ?_ _ | refine blk_drew ?_ | refine blk_alloc ?_ _)); exact BK195.out) NB195_191.out (by simp))
    have n2_ := Aside0.mk (hb)
    have n3_ := Aside0.mk (hi)
    clear BK188
    clear BK195
    clear HB
    clear HI191
    have BK188 := n0_
    have BK195 := n1_
    have HB := n2_
    have HI191 := n3_
    clear n0_ n1_ n2_ n3_
    (try clear hb)
    (try clear hb2)
    (try clear hk)
    (try clear hi)
    refine hK.out _ _ ⟨(blk_cell BK195.out 0).trans rfl, (blk_cell BK195.out 1).trans rfl⟩ (fun hHeld => ?_)
    clear hK K
    refine norm_ (a' := ?_) ?_ ?_
    rotate_left
    · show Act.put _ (some 25) _ = _
      simp only [Act.put, List.setIfInBounds_toArray, List.set_cons_zero, List.set_cons_succ, i64_w, i32_w]
      rfl
    refine pure_ (i := 6) (N := some 26) (v := ?_) (a' := ?_) #[true, true, true, true, true, true, true, false, false, false] rfl rfl (any_of HT_.out (by kernel_rfl)) (fun _ _ _ h => h) (Or.inl ⟨by rfl, ?_⟩) ?_ ?_
    rotate_left
    · intro w'
      go_simp
      with_reducible rfl
    rotate_left
    · simp only [Act.put, List.setIfInBounds_toArray, List.set_cons_zero, List.set_cons_succ, i64_w, i32_w]
      rfl
    refine one_ (i := 7) (N := none) #[true, true, true, true, true, true, true, true, false, false] rfl rfl (one_of HT_.out (by kernel_rfl)) (by decide) (fun K hK => ?_)
    have hs39 : w38.cell? ⟨gb188, 0, none⟩ = some (.int .i64 0) := (blk_cell BK188.out 0).trans rfl
    have hfs39 := blk_frozen BK188.out 0
    have hns39_1 := NB195_188.out
    have hms39_1 := NB188_195.out
    have hs40 : w38.cell? ⟨gb188, 1, none⟩ = some (.bool false) := (blk_cell BK188.out 1).trans rfl
    have hfs40 := blk_frozen BK188.out 1
    have hns40_1 := NB195_188.out
    have hms40_1 := NB188_195.out
    refine skip_ (w1 := ?_) (by rfl) rfl ?_ ?_
    rotate_left
    · go_simp
      rfl
    refine hK.out _ _ ⟨((cell_far (p := ⟨gb188, _, none⟩) NB195_188.out _).trans (((cell_far (p := ⟨gb188, _, none⟩) NB195_188.out _).trans (hHeld.1)))), ((cell_far (p := ⟨gb188, _, none⟩) NB195_188.out _).trans (((cell_far (p := ⟨gb188, _, none⟩) NB195_188.out _).trans (hHeld.2))))⟩ (fun hHeld => ?_)
    clear hK K
    refine pure_ (i := 8) (N := some 3) (v := ?_) (a' := ?_) #[true, true, true, true, true, true, true, true, true, false] rfl rfl (any_of HT_.out (by kernel_rfl)) (fun _ _ _ h => h) (Or.inl ⟨by rfl, ?_⟩) ?_ ?_
    rotate_left
    · intro w'
      go_simp
      with_reducible rfl
    rotate_left
    · simp only [Act.put, List.setIfInBounds_toArray, List.set_cons_zero, List.set_cons_succ, i64_w, i32_w]
      rfl
    refine pure_ (i := 9) (N := some 4) (v := ?_) (a' := ?_) #[true, true, true, true, true, true, true, true, true, true] rfl rfl (any_of HT_.out (by kernel_rfl)) (fun _ _ _ h => h) (Or.inl ⟨by rfl, ?_⟩) ?_ ?_
    rotate_left
    · intro w'
      go_simp
      with_reducible rfl
    rotate_left
    · simp only [Act.put, List.setIfInBounds_toArray, List.set_cons_zero, List.set_cons_succ, i64_w, i32_w]
      rfl
    refine done_ (done_of HT_.out (by kernel_rfl)) ?_
    try go_wp2
    refine bodyPost_ret (results_ctt rfl _ _ gb188 26 #[.int .i64 t192, .bool t193] (0, 0) _ rfl (by (with_reducible repeat (first | refine blk_drewN ?_ _ | refine blk_drew ?_ | refine blk_alloc ?_ _)); refine blk_put (cs := #[.int .i64 t192, .bool false]) ?_ 1 _ rfl; (with_reducible repeat (first | refine blk_drewN ?_ _ | refine blk_drew ?_ | refine blk_alloc ?_ _)); refine blk_put (cs := #[.int .i64 0, .bool false]) ?_ 0 _ rfl; (with_reducible repeat (first | refine blk_drewN ?_ _ | refine blk_drew ?_ | refine blk_alloc ?_ _)); exact BK188.out) Try.underlying26 rfl (by kernel_rfl)) rfl ?_
    exact ⟨by first | rfl | (simp [errW_none, errW_some] <;> rfl) | (simp [*, errW_none, errW_some] <;> rfl), by repeat (first | (with_reducible first | exact HB.out | apply below_alloc | apply pw_below_drewN | apply below_drew1 | refine below_set ?_ (IsS49.ge HI191.out) | refine below_set ?_ GE188.out | refine below_set ?_ GE195.out) | exact HB.out)⟩

end Go.Proofs.Ytjoomlhlihcjkaa.XA
