-- Written by this session's own program (wip/tools/xprint.py) out of the translation. Not trusted: Lean checks it.
import Derived.Test.YtpfgeflnhkpmaaaDoorXHx0
import Derived.Test.YtpfgeflnhkpmaaaDoorXHx2
namespace Go.Proofs.YtpfgeflnhkpmaaaDoor.XH
open Go.RowKit Go.Proofs.YtpfgeflnhkpmaaaDoorW.PrintWords Go.Proofs.YtpfgeflnhkpmaaaDoorW.PrintLast Go.Proofs.YtpfgeflnhkpmaaaDoorW.PrintMore
attribute [local go_sem] max2_int min2_int max_two min_two max_three min_three max_four min_four   -- for this text's walks alone
set_option linter.unusedVariables false
set_option linter.unusedSimpArgs false

/-! ### impl_hexachord_syllable: function 21 -/
def sylFrom (s : Nat) (t0 : Int) (t1 : Bool) : Nat → Nat → Int
  | 0, _ => -1
  | d + 1, i => if (((s : Int) + (i : Int) == t0) && (hexSoft s i == t1)) = true then (i : Int) else sylFrom s t0 t1 d (i + 1)
/-- The syllable of a tone in the hexachord that begins at a step, or -1. -/
def syl (s : Nat) (t0 : Int) (t1 : Bool) : Int := sylFrom s t0 t1 6 0
set_option maxHeartbeats 4000000 in
set_option maxRecDepth 100000 in
theorem impl_hexachord_syllable.calls (s b o : Nat) (t0 : Int) (t1 : Bool) (w : World) (hc : ∀ j u, (hexCells s)[j]? = some u → w.cell? ⟨b, o + j, none⟩ = some u) :
    Calls Tryd.prog 21 #[.pointer (some ⟨b, o, none⟩), .agg #[.int .i64 t0, .bool t1]] w fun e w' => e = .returned (.int .i64 (syl s t0 t1)) ∧ Below w.heap.size w w' := by
  have HB : Aside0 (Below w.heap.size w w) := ⟨Below.refl _ _⟩
  have hc1 : w.cell? ⟨b, o + 1, none⟩ = some (.int .i64 (s : Int)) := hc 1 _ rfl
  have hc2 : w.cell? ⟨b, o + 2, none⟩ = some (.bool (hexSoft s 0)) := hc 2 _ rfl
  have hc3 : w.cell? ⟨b, o + 3, none⟩ = some (.int .i64 ((s : Int) + 1)) := hc 3 _ rfl
  have hc4 : w.cell? ⟨b, o + 4, none⟩ = some (.bool (hexSoft s 1)) := hc 4 _ rfl
  have hc5 : w.cell? ⟨b, o + 5, none⟩ = some (.int .i64 ((s : Int) + 2)) := hc 5 _ rfl
  have hc6 : w.cell? ⟨b, o + 6, none⟩ = some (.bool (hexSoft s 2)) := hc 6 _ rfl
  have hc7 : w.cell? ⟨b, o + 7, none⟩ = some (.int .i64 ((s : Int) + 3)) := hc 7 _ rfl
  have hc8 : w.cell? ⟨b, o + 8, none⟩ = some (.bool (hexSoft s 3)) := hc 8 _ rfl
  have hc9 : w.cell? ⟨b, o + 9, none⟩ = some (.int .i64 ((s : Int) + 4)) := hc 9 _ rfl
  have hc10 : w.cell? ⟨b, o + 10, none⟩ = some (.bool (hexSoft s 4)) := hc 10 _ rfl
  have hc11 : w.cell? ⟨b, o + 11, none⟩ = some (.int .i64 ((s : Int) + 5)) := hc 11 _ rfl
  have hc12 : w.cell? ⟨b, o + 12, none⟩ = some (.bool (hexSoft s 5)) := hc 12 _ rfl
  clear hc
  go_enter Tryd.func21, Tryd.ntmps21
  go_wp2_with (first | ((with_reducible refine gate_dst (N := 3) rfl ?_); refine box_event ?hg (N := 3) ?hd (cs := #[.int .i64 t0, .bool t1]) (t := 25) ?hr ?_; (case hd => rfl); (case hg => rfl); (case hr => first | (go_simp; done) | (go_simp; rfl)); intro gt hg w8 hbox hb; have n0_ := Aside0.mk (below_step HB.out hb); have n1_ := Aside0.mk hbox; clear HB; have HB := n0_; have BT := n1_; clear n0_ n1_; clear hb hbox hg; replace hc1 := pw_cell_below HB.out hc1; replace hc2 := pw_cell_below HB.out hc2; replace hc3 := pw_cell_below HB.out hc3; replace hc4 := pw_cell_below HB.out hc4; replace hc5 := pw_cell_below HB.out hc5; replace hc6 := pw_cell_below HB.out hc6; replace hc7 := pw_cell_below HB.out hc7; replace hc8 := pw_cell_below HB.out hc8; replace hc9 := pw_cell_below HB.out hc9; replace hc10 := pw_cell_below HB.out hc10; replace hc11 := pw_cell_below HB.out hc11; replace hc12 := pw_cell_below HB.out hc12))
  clear hc1 hc2 hc3 hc4 hc5 hc6 hc7 hc8 hc9 hc10 hc11 hc12
  go_loopg [11] 6 (fun kq v11 w' => ∃ i : Nat, v11 = .int .i64 (i : Int) ∧ Aside0 (i + kq = 6) ∧ Aside0 (sylFrom s t0 t1 kq i = syl s t0 t1) ∧ Aside0 (w'.heap[gt]? = some (.cells #[.int .i64 t0, .bool t1] 25 (0, 0))) ∧ Aside0 (Below w.heap.size w w'))
  case atStart => exact ⟨0, rfl, ⟨rfl⟩, ⟨rfl⟩, BT, HB⟩
  case round =>
    clear HB BT
    obtain ⟨i, hv, HI, HS, BT, HB⟩ := hrel
    have hi : i = 0 ∨ i = 1 ∨ i = 2 ∨ i = 3 ∨ i = 4 ∨ i = 5 ∨ i = 6 := by have := HI.out; omega
    have ht0 : wr.cell? ⟨gt, 0, none⟩ = some (.int .i64 t0) := (blk_cell BT.out 0).trans rfl
    have ht1 : wr.cell? ⟨gt, 1, none⟩ = some (.bool t1) := (blk_cell BT.out 1).trans rfl
    have hi25 : (Tryd.prog.info? 25).map (·.size) = some 2 := by kernel_rfl
    rcases hi with rfl | rfl | rfl | rfl | rfl | rfl | rfl
    · obtain rfl : u11 = .int .i64 0 := hv
      have hix : ∀ W : World, (Instr.index 46 (.agg #[.int .i64 (s : Int), .bool (hexSoft s 0), .int .i64 ((s : Int) + 1), .bool (hexSoft s 1), .int .i64 ((s : Int) + 2), .bool (hexSoft s 2), .int .i64 ((s : Int) + 3), .bool (hexSoft s 3), .int .i64 ((s : Int) + 4), .bool (hexSoft s 4), .int .i64 ((s : Int) + 5), .bool (hexSoft s 5)]) (.int .i64 0)).run Tryd.prog W = .ok (.agg #[.int .i64 (s : Int), .bool (hexSoft s 0)]) W := fun W => by kernel_rfl
      obtain rfl : gk = 5 + 1 := by have := HI.out; omega
      by_cases c1 : (s : Int) = t0
      · by_cases c2 : hexSoft s 0 = t1
        · skip
          have hS := Aside0.mk ((show (0 : Int) = syl s t0 t1 by rw [← HS.out]; exact (if_pos (by simp [c1, c2])).symm))
          clear HS
          replace c1 := eq_true c1
          replace c2 := eq_true c2
          go_wp2_with (first | ((with_reducible refine gate_dst (N := 6) rfl ?_); refine box_event ?hg (N := 6) ?hd (cs := #[.int .i64 0, .bool false]) (t := 25) ?hr ?_; (case hd => rfl); (case hg => rfl); (case hr => first | (go_simp; done) | (go_simp; rfl)); intro go hg w8 hbox hb; have n0_ := Aside0.mk (below_step HB.out hb); have n1_ := Aside0.mk hbox; have n2_ := Aside0.mk (blk_below BT.out hb); have n3_ := Aside0.mk ((by rw [hg]; exact below_size HB.out) : w.heap.size ≤ go); have n4_ := Aside0.mk ((by rw [hg]; exact Nat.ne_of_lt (blk_lt BT.out)) : gt ≠ go); clear HB BT ht0 ht1; have HB := n0_; have BO := n1_; have BT := n2_; have GO := n3_; have GN := n4_; clear n0_ n1_ n2_ n3_ n4_; clear hb hbox hg) | ((with_reducible refine gate_store (t := 25) (p := 6) rfl ?_); refine store_blk (g := go) (off := 0) (e := 25) (cs := [.int .i64 0, .bool false]) rfl rfl 25 6 (.tmp 14) rfl rfl (.agg #[.int .i64 (s : Int), .bool (hexSoft s 0)]) rfl [.int .i64 (s : Int), .bool (hexSoft s 0)] BO.out rfl hi25 (Nat.le_refl 2) (by intro q hq; simp only [List.mem_cons, List.not_mem_nil, or_false] at hq; rcases hq with rfl | rfl <;> rfl) ?_; intro w9 hh hg; have n0_ := Aside0.mk (pw_below_grown HB.out _ (below_size HB.out) hg (fun k e => by cases e; exact GO.out)); have n3_ := Aside0.mk (blk_grown BT.out hg (fun e => GN.out (by cases e; rfl))); have ho0 : w9.cell? ⟨go, 0, none⟩ = some (.int .i64 (s : Int)) := (blk_cell hh 0).trans rfl; have ho1 : w9.cell? ⟨go, 1, none⟩ = some (.bool (hexSoft s 0)) := (blk_cell hh 1).trans rfl; clear HB BO BT; have HB := n0_; have BT := n3_; clear n0_ n3_; clear hh hg; have ht0 : w9.cell? ⟨gt, 0, none⟩ = some (.int .i64 t0) := (blk_cell BT.out 0).trans rfl; have ht1 : w9.cell? ⟨gt, 1, none⟩ = some (.bool t1) := (blk_cell BT.out 1).trans rfl))
          go_ret
          exact ⟨by rw [← hS.out]; rfl, HB.out⟩
        · skip
          have hS := Aside0.mk ((show sylFrom s t0 t1 5 1 = syl s t0 t1 by rw [← HS.out]; exact (if_neg (by simp [c1, c2])).symm))
          clear HS
          replace c1 := eq_true c1
          replace c2 := eq_false c2
          go_wp2_with (first | ((with_reducible refine gate_dst (N := 6) rfl ?_); refine box_event ?hg (N := 6) ?hd (cs := #[.int .i64 0, .bool false]) (t := 25) ?hr ?_; (case hd => rfl); (case hg => rfl); (case hr => first | (go_simp; done) | (go_simp; rfl)); intro go hg w8 hbox hb; have n0_ := Aside0.mk (below_step HB.out hb); have n1_ := Aside0.mk hbox; have n2_ := Aside0.mk (blk_below BT.out hb); have n3_ := Aside0.mk ((by rw [hg]; exact below_size HB.out) : w.heap.size ≤ go); have n4_ := Aside0.mk ((by rw [hg]; exact Nat.ne_of_lt (blk_lt BT.out)) : gt ≠ go); clear HB BT ht0 ht1; have HB := n0_; have BO := n1_; have BT := n2_; have GO := n3_; have GN := n4_; clear n0_ n1_ n2_ n3_ n4_; clear hb hbox hg) | ((with_reducible refine gate_store (t := 25) (p := 6) rfl ?_); refine store_blk (g := go) (off := 0) (e := 25) (cs := [.int .i64 0, .bool false]) rfl rfl 25 6 (.tmp 14) rfl rfl (.agg #[.int .i64 (s : Int), .bool (hexSoft s 0)]) rfl [.int .i64 (s : Int), .bool (hexSoft s 0)] BO.out rfl hi25 (Nat.le_refl 2) (by intro q hq; simp only [List.mem_cons, List.not_mem_nil, or_false] at hq; rcases hq with rfl | rfl <;> rfl) ?_; intro w9 hh hg; have n0_ := Aside0.mk (pw_below_grown HB.out _ (below_size HB.out) hg (fun k e => by cases e; exact GO.out)); have n3_ := Aside0.mk (blk_grown BT.out hg (fun e => GN.out (by cases e; rfl))); have ho0 : w9.cell? ⟨go, 0, none⟩ = some (.int .i64 (s : Int)) := (blk_cell hh 0).trans rfl; have ho1 : w9.cell? ⟨go, 1, none⟩ = some (.bool (hexSoft s 0)) := (blk_cell hh 1).trans rfl; clear HB BO BT; have HB := n0_; have BT := n3_; clear n0_ n3_; clear hh hg; have ht0 : w9.cell? ⟨gt, 0, none⟩ = some (.int .i64 t0) := (blk_cell BT.out 0).trans rfl; have ht1 : w9.cell? ⟨gt, 1, none⟩ = some (.bool t1) := (blk_cell BT.out 1).trans rfl))
          go_roundg 5
          case measure => omega
          case rel => exact ⟨1, rfl, ⟨rfl⟩, hS, BT, HB⟩
      · skip
        have hS := Aside0.mk ((show sylFrom s t0 t1 5 1 = syl s t0 t1 by rw [← HS.out]; exact (if_neg (by simp [c1])).symm))
        clear HS
        replace c1 := eq_false c1
        go_wp2_with (first | ((with_reducible refine gate_dst (N := 6) rfl ?_); refine box_event ?hg (N := 6) ?hd (cs := #[.int .i64 0, .bool false]) (t := 25) ?hr ?_; (case hd => rfl); (case hg => rfl); (case hr => first | (go_simp; done) | (go_simp; rfl)); intro go hg w8 hbox hb; have n0_ := Aside0.mk (below_step HB.out hb); have n1_ := Aside0.mk hbox; have n2_ := Aside0.mk (blk_below BT.out hb); have n3_ := Aside0.mk ((by rw [hg]; exact below_size HB.out) : w.heap.size ≤ go); have n4_ := Aside0.mk ((by rw [hg]; exact Nat.ne_of_lt (blk_lt BT.out)) : gt ≠ go); clear HB BT ht0 ht1; have HB := n0_; have BO := n1_; have BT := n2_; have GO := n3_; have GN := n4_; clear n0_ n1_ n2_ n3_ n4_; clear hb hbox hg) | ((with_reducible refine gate_store (t := 25) (p := 6) rfl ?_); refine store_blk (g := go) (off := 0) (e := 25) (cs := [.int .i64 0, .bool false]) rfl rfl 25 6 (.tmp 14) rfl rfl (.agg #[.int .i64 (s : Int), .bool (hexSoft s 0)]) rfl [.int .i64 (s : Int), .bool (hexSoft s 0)] BO.out rfl hi25 (Nat.le_refl 2) (by intro q hq; simp only [List.mem_cons, List.not_mem_nil, or_false] at hq; rcases hq with rfl | rfl <;> rfl) ?_; intro w9 hh hg; have n0_ := Aside0.mk (pw_below_grown HB.out _ (below_size HB.out) hg (fun k e => by cases e; exact GO.out)); have n3_ := Aside0.mk (blk_grown BT.out hg (fun e => GN.out (by cases e; rfl))); have ho0 : w9.cell? ⟨go, 0, none⟩ = some (.int .i64 (s : Int)) := (blk_cell hh 0).trans rfl; have ho1 : w9.cell? ⟨go, 1, none⟩ = some (.bool (hexSoft s 0)) := (blk_cell hh 1).trans rfl; clear HB BO BT; have HB := n0_; have BT := n3_; clear n0_ n3_; clear hh hg; have ht0 : w9.cell? ⟨gt, 0, none⟩ = some (.int .i64 t0) := (blk_cell BT.out 0).trans rfl; have ht1 : w9.cell? ⟨gt, 1, none⟩ = some (.bool t1) := (blk_cell BT.out 1).trans rfl))
        go_roundg 5
        case measure => omega
        case rel => exact ⟨1, rfl, ⟨rfl⟩, hS, BT, HB⟩
    · obtain rfl : u11 = .int .i64 1 := hv
      have hix : ∀ W : World, (Instr.index 46 (.agg #[.int .i64 (s : Int), .bool (hexSoft s 0), .int .i64 ((s : Int) + 1), .bool (hexSoft s 1), .int .i64 ((s : Int) + 2), .bool (hexSoft s 2), .int .i64 ((s : Int) + 3), .bool (hexSoft s 3), .int .i64 ((s : Int) + 4), .bool (hexSoft s 4), .int .i64 ((s : Int) + 5), .bool (hexSoft s 5)]) (.int .i64 1)).run Tryd.prog W = .ok (.agg #[.int .i64 ((s : Int) + 1), .bool (hexSoft s 1)]) W := fun W => by kernel_rfl
      obtain rfl : gk = 4 + 1 := by have := HI.out; omega
      by_cases c1 : ((s : Int) + 1) = t0
      · by_cases c2 : hexSoft s 1 = t1
        · skip
          have hS := Aside0.mk ((show (1 : Int) = syl s t0 t1 by rw [← HS.out]; exact (if_pos (by simp [c1, c2])).symm))
          clear HS
          replace c1 := eq_true c1
          replace c2 := eq_true c2
          go_wp2_with (first | ((with_reducible refine gate_dst (N := 6) rfl ?_); refine box_event ?hg (N := 6) ?hd (cs := #[.int .i64 0, .bool false]) (t := 25) ?hr ?_; (case hd => rfl); (case hg => rfl); (case hr => first | (go_simp; done) | (go_simp; rfl)); intro go hg w8 hbox hb; have n0_ := Aside0.mk (below_step HB.out hb); have n1_ := Aside0.mk hbox; have n2_ := Aside0.mk (blk_below BT.out hb); have n3_ := Aside0.mk ((by rw [hg]; exact below_size HB.out) : w.heap.size ≤ go); have n4_ := Aside0.mk ((by rw [hg]; exact Nat.ne_of_lt (blk_lt BT.out)) : gt ≠ go); clear HB BT ht0 ht1; have HB := n0_; have BO := n1_; have BT := n2_; have GO := n3_; have GN := n4_; clear n0_ n1_ n2_ n3_ n4_; clear hb hbox hg) | ((with_reducible refine gate_store (t := 25) (p := 6) rfl ?_); refine store_blk (g := go) (off := 0) (e := 25) (cs := [.int .i64 0, .bool false]) rfl rfl 25 6 (.tmp 14) rfl rfl (.agg #[.int .i64 ((s : Int) + 1), .bool (hexSoft s 1)]) rfl [.int .i64 ((s : Int) + 1), .bool (hexSoft s 1)] BO.out rfl hi25 (Nat.le_refl 2) (by intro q hq; simp only [List.mem_cons, List.not_mem_nil, or_false] at hq; rcases hq with rfl | rfl <;> rfl) ?_; intro w9 hh hg; have n0_ := Aside0.mk (pw_below_grown HB.out _ (below_size HB.out) hg (fun k e => by cases e; exact GO.out)); have n3_ := Aside0.mk (blk_grown BT.out hg (fun e => GN.out (by cases e; rfl))); have ho0 : w9.cell? ⟨go, 0, none⟩ = some (.int .i64 ((s : Int) + 1)) := (blk_cell hh 0).trans rfl; have ho1 : w9.cell? ⟨go, 1, none⟩ = some (.bool (hexSoft s 1)) := (blk_cell hh 1).trans rfl; clear HB BO BT; have HB := n0_; have BT := n3_; clear n0_ n3_; clear hh hg; have ht0 : w9.cell? ⟨gt, 0, none⟩ = some (.int .i64 t0) := (blk_cell BT.out 0).trans rfl; have ht1 : w9.cell? ⟨gt, 1, none⟩ = some (.bool t1) := (blk_cell BT.out 1).trans rfl))
          go_ret
          exact ⟨by rw [← hS.out]; rfl, HB.out⟩
        · skip
          have hS := Aside0.mk ((show sylFrom s t0 t1 4 2 = syl s t0 t1 by rw [← HS.out]; exact (if_neg (by simp [c1, c2])).symm))
          clear HS
          replace c1 := eq_true c1
          replace c2 := eq_false c2
          go_wp2_with (first | ((with_reducible refine gate_dst (N := 6) rfl ?_); refine box_event ?hg (N := 6) ?hd (cs := #[.int .i64 0, .bool false]) (t := 25) ?hr ?_; (case hd => rfl); (case hg => rfl); (case hr => first | (go_simp; done) | (go_simp; rfl)); intro go hg w8 hbox hb; have n0_ := Aside0.mk (below_step HB.out hb); have n1_ := Aside0.mk hbox; have n2_ := Aside0.mk (blk_below BT.out hb); have n3_ := Aside0.mk ((by rw [hg]; exact below_size HB.out) : w.heap.size ≤ go); have n4_ := Aside0.mk ((by rw [hg]; exact Nat.ne_of_lt (blk_lt BT.out)) : gt ≠ go); clear HB BT ht0 ht1; have HB := n0_; have BO := n1_; have BT := n2_; have GO := n3_; have GN := n4_; clear n0_ n1_ n2_ n3_ n4_; clear hb hbox hg) | ((with_reducible refine gate_store (t := 25) (p := 6) rfl ?_); refine store_blk (g := go) (off := 0) (e := 25) (cs := [.int .i64 0, .bool false]) rfl rfl 25 6 (.tmp 14) rfl rfl (.agg #[.int .i64 ((s : Int) + 1), .bool (hexSoft s 1)]) rfl [.int .i64 ((s : Int) + 1), .bool (hexSoft s 1)] BO.out rfl hi25 (Nat.le_refl 2) (by intro q hq; simp only [List.mem_cons, List.not_mem_nil, or_false] at hq; rcases hq with rfl | rfl <;> rfl) ?_; intro w9 hh hg; have n0_ := Aside0.mk (pw_below_grown HB.out _ (below_size HB.out) hg (fun k e => by cases e; exact GO.out)); have n3_ := Aside0.mk (blk_grown BT.out hg (fun e => GN.out (by cases e; rfl))); have ho0 : w9.cell? ⟨go, 0, none⟩ = some (.int .i64 ((s : Int) + 1)) := (blk_cell hh 0).trans rfl; have ho1 : w9.cell? ⟨go, 1, none⟩ = some (.bool (hexSoft s 1)) := (blk_cell hh 1).trans rfl; clear HB BO BT; have HB := n0_; have BT := n3_; clear n0_ n3_; clear hh hg; have ht0 : w9.cell? ⟨gt, 0, none⟩ = some (.int .i64 t0) := (blk_cell BT.out 0).trans rfl; have ht1 : w9.cell? ⟨gt, 1, none⟩ = some (.bool t1) := (blk_cell BT.out 1).trans rfl))
          go_roundg 4
          case measure => omega
          case rel => exact ⟨2, rfl, ⟨rfl⟩, hS, BT, HB⟩
      · skip
        have hS := Aside0.mk ((show sylFrom s t0 t1 4 2 = syl s t0 t1 by rw [← HS.out]; exact (if_neg (by simp [c1])).symm))
        clear HS
        replace c1 := eq_false c1
        go_wp2_with (first | ((with_reducible refine gate_dst (N := 6) rfl ?_); refine box_event ?hg (N := 6) ?hd (cs := #[.int .i64 0, .bool false]) (t := 25) ?hr ?_; (case hd => rfl); (case hg => rfl); (case hr => first | (go_simp; done) | (go_simp; rfl)); intro go hg w8 hbox hb; have n0_ := Aside0.mk (below_step HB.out hb); have n1_ := Aside0.mk hbox; have n2_ := Aside0.mk (blk_below BT.out hb); have n3_ := Aside0.mk ((by rw [hg]; exact below_size HB.out) : w.heap.size ≤ go); have n4_ := Aside0.mk ((by rw [hg]; exact Nat.ne_of_lt (blk_lt BT.out)) : gt ≠ go); clear HB BT ht0 ht1; have HB := n0_; have BO := n1_; have BT := n2_; have GO := n3_; have GN := n4_; clear n0_ n1_ n2_ n3_ n4_; clear hb hbox hg) | ((with_reducible refine gate_store (t := 25) (p := 6) rfl ?_); refine store_blk (g := go) (off := 0) (e := 25) (cs := [.int .i64 0, .bool false]) rfl rfl 25 6 (.tmp 14) rfl rfl (.agg #[.int .i64 ((s : Int) + 1), .bool (hexSoft s 1)]) rfl [.int .i64 ((s : Int) + 1), .bool (hexSoft s 1)] BO.out rfl hi25 (Nat.le_refl 2) (by intro q hq; simp only [List.mem_cons, List.not_mem_nil, or_false] at hq; rcases hq with rfl | rfl <;> rfl) ?_; intro w9 hh hg; have n0_ := Aside0.mk (pw_below_grown HB.out _ (below_size HB.out) hg (fun k e => by cases e; exact GO.out)); have n3_ := Aside0.mk (blk_grown BT.out hg (fun e => GN.out (by cases e; rfl))); have ho0 : w9.cell? ⟨go, 0, none⟩ = some (.int .i64 ((s : Int) + 1)) := (blk_cell hh 0).trans rfl; have ho1 : w9.cell? ⟨go, 1, none⟩ = some (.bool (hexSoft s 1)) := (blk_cell hh 1).trans rfl; clear HB BO BT; have HB := n0_; have BT := n3_; clear n0_ n3_; clear hh hg; have ht0 : w9.cell? ⟨gt, 0, none⟩ = some (.int .i64 t0) := (blk_cell BT.out 0).trans rfl; have ht1 : w9.cell? ⟨gt, 1, none⟩ = some (.bool t1) := (blk_cell BT.out 1).trans rfl))
        go_roundg 4
        case measure => omega
        case rel => exact ⟨2, rfl, ⟨rfl⟩, hS, BT, HB⟩
    · obtain rfl : u11 = .int .i64 2 := hv
      have hix : ∀ W : World, (Instr.index 46 (.agg #[.int .i64 (s : Int), .bool (hexSoft s 0), .int .i64 ((s : Int) + 1), .bool (hexSoft s 1), .int .i64 ((s : Int) + 2), .bool (hexSoft s 2), .int .i64 ((s : Int) + 3), .bool (hexSoft s 3), .int .i64 ((s : Int) + 4), .bool (hexSoft s 4), .int .i64 ((s : Int) + 5), .bool (hexSoft s 5)]) (.int .i64 2)).run Tryd.prog W = .ok (.agg #[.int .i64 ((s : Int) + 2), .bool (hexSoft s 2)]) W := fun W => by kernel_rfl
      obtain rfl : gk = 3 + 1 := by have := HI.out; omega
      by_cases c1 : ((s : Int) + 2) = t0
      · by_cases c2 : hexSoft s 2 = t1
        · skip
          have hS := Aside0.mk ((show (2 : Int) = syl s t0 t1 by rw [← HS.out]; exact (if_pos (by simp [c1, c2])).symm))
          clear HS
          replace c1 := eq_true c1
          replace c2 := eq_true c2
          go_wp2_with (first | ((with_reducible refine gate_dst (N := 6) rfl ?_); refine box_event ?hg (N := 6) ?hd (cs := #[.int .i64 0, .bool false]) (t := 25) ?hr ?_; (case hd => rfl); (case hg => rfl); (case hr => first | (go_simp; done) | (go_simp; rfl)); intro go hg w8 hbox hb; have n0_ := Aside0.mk (below_step HB.out hb); have n1_ := Aside0.mk hbox; have n2_ := Aside0.mk (blk_below BT.out hb); have n3_ := Aside0.mk ((by rw [hg]; exact below_size HB.out) : w.heap.size ≤ go); have n4_ := Aside0.mk ((by rw [hg]; exact Nat.ne_of_lt (blk_lt BT.out)) : gt ≠ go); clear HB BT ht0 ht1; have HB := n0_; have BO := n1_; have BT := n2_; have GO := n3_; have GN := n4_; clear n0_ n1_ n2_ n3_ n4_; clear hb hbox hg) | ((with_reducible refine gate_store (t := 25) (p := 6) rfl ?_); refine store_blk (g := go) (off := 0) (e := 25) (cs := [.int .i64 0, .bool false]) rfl rfl 25 6 (.tmp 14) rfl rfl (.agg #[.int .i64 ((s : Int) + 2), .bool (hexSoft s 2)]) rfl [.int .i64 ((s : Int) + 2), .bool (hexSoft s 2)] BO.out rfl hi25 (Nat.le_refl 2) (by intro q hq; simp only [List.mem_cons, List.not_mem_nil, or_false] at hq; rcases hq with rfl | rfl <;> rfl) ?_; intro w9 hh hg; have n0_ := Aside0.mk (pw_below_grown HB.out _ (below_size HB.out) hg (fun k e => by cases e; exact GO.out)); have n3_ := Aside0.mk (blk_grown BT.out hg (fun e => GN.out (by cases e; rfl))); have ho0 : w9.cell? ⟨go, 0, none⟩ = some (.int .i64 ((s : Int) + 2)) := (blk_cell hh 0).trans rfl; have ho1 : w9.cell? ⟨go, 1, none⟩ = some (.bool (hexSoft s 2)) := (blk_cell hh 1).trans rfl; clear HB BO BT; have HB := n0_; have BT := n3_; clear n0_ n3_; clear hh hg; have ht0 : w9.cell? ⟨gt, 0, none⟩ = some (.int .i64 t0) := (blk_cell BT.out 0).trans rfl; have ht1 : w9.cell? ⟨gt, 1, none⟩ = some (.bool t1) := (blk_cell BT.out 1).trans rfl))
          go_ret
          exact ⟨by rw [← hS.out]; rfl, HB.out⟩
        · skip
          have hS := Aside0.mk ((show sylFrom s t0 t1 3 3 = syl s t0 t1 by rw [← HS.out]; exact (if_neg (by simp [c1, c2])).symm))
          clear HS
          replace c1 := eq_true c1
          replace c2 := eq_false c2
          go_wp2_with (first | ((with_reducible refine gate_dst (N := 6) rfl ?_); refine box_event ?hg (N := 6) ?hd (cs := #[.int .i64 0, .bool false]) (t := 25) ?hr ?_; (case hd => rfl); (case hg => rfl); (case hr => first | (go_simp; done) | (go_simp; rfl)); intro go hg w8 hbox hb; have n0_ := Aside0.mk (below_step HB.out hb); have n1_ := Aside0.mk hbox; have n2_ := Aside0.mk (blk_below BT.out hb); have n3_ := Aside0.mk ((by rw [hg]; exact below_size HB.out) : w.heap.size ≤ go); have n4_ := Aside0.mk ((by rw [hg]; exact Nat.ne_of_lt (blk_lt BT.out)) : gt ≠ go); clear HB BT ht0 ht1; have HB := n0_; have BO := n1_; have BT := n2_; have GO := n3_; have GN := n4_; clear n0_ n1_ n2_ n3_ n4_; clear hb hbox hg) | ((with_reducible refine gate_store (t := 25) (p := 6) rfl ?_); refine store_blk (g := go) (off := 0) (e := 25) (cs := [.int .i64 0, .bool false]) rfl rfl 25 6 (.tmp 14) rfl rfl (.agg #[.int .i64 ((s : Int) + 2), .bool (hexSoft s 2)]) rfl [.int .i64 ((s : Int) + 2), .bool (hexSoft s 2)] BO.out rfl hi25 (Nat.le_refl 2) (by intro q hq; simp only [List.mem_cons, List.not_mem_nil, or_false] at hq; rcases hq with rfl | rfl <;> rfl) ?_; intro w9 hh hg; have n0_ := Aside0.mk (pw_below_grown HB.out _ (below_size HB.out) hg (fun k e => by cases e; exact GO.out)); have n3_ := Aside0.mk (blk_grown BT.out hg (fun e => GN.out (by cases e; rfl))); have ho0 : w9.cell? ⟨go, 0, none⟩ = some (.int .i64 ((s : Int) + 2)) := (blk_cell hh 0).trans rfl; have ho1 : w9.cell? ⟨go, 1, none⟩ = some (.bool (hexSoft s 2)) := (blk_cell hh 1).trans rfl; clear HB BO BT; have HB := n0_; have BT := n3_; clear n0_ n3_; clear hh hg; have ht0 : w9.cell? ⟨gt, 0, none⟩ = some (.int .i64 t0) := (blk_cell BT.out 0).trans rfl; have ht1 : w9.cell? ⟨gt, 1, none⟩ = some (.bool t1) := (blk_cell BT.out 1).trans rfl))
          go_roundg 3
          case measure => omega
          case rel => exact ⟨3, rfl, ⟨rfl⟩, hS, BT, HB⟩
      · skip
        have hS := Aside0.mk ((show sylFrom s t0 t1 3 3 = syl s t0 t1 by rw [← HS.out]; exact (if_neg (by simp [c1])).symm))
        clear HS
        replace c1 := eq_false c1
        go_wp2_with (first | ((with_reducible refine gate_dst (N := 6) rfl ?_); refine box_event ?hg (N := 6) ?hd (cs := #[.int .i64 0, .bool false]) (t := 25) ?hr ?_; (case hd => rfl); (case hg => rfl); (case hr => first | (go_simp; done) | (go_simp; rfl)); intro go hg w8 hbox hb; have n0_ := Aside0.mk (below_step HB.out hb); have n1_ := Aside0.mk hbox; have n2_ := Aside0.mk (blk_below BT.out hb); have n3_ := Aside0.mk ((by rw [hg]; exact below_size HB.out) : w.heap.size ≤ go); have n4_ := Aside0.mk ((by rw [hg]; exact Nat.ne_of_lt (blk_lt BT.out)) : gt ≠ go); clear HB BT ht0 ht1; have HB := n0_; have BO := n1_; have BT := n2_; have GO := n3_; have GN := n4_; clear n0_ n1_ n2_ n3_ n4_; clear hb hbox hg) | ((with_reducible refine gate_store (t := 25) (p := 6) rfl ?_); refine store_blk (g := go) (off := 0) (e := 25) (cs := [.int .i64 0, .bool false]) rfl rfl 25 6 (.tmp 14) rfl rfl (.agg #[.int .i64 ((s : Int) + 2), .bool (hexSoft s 2)]) rfl [.int .i64 ((s : Int) + 2), .bool (hexSoft s 2)] BO.out rfl hi25 (Nat.le_refl 2) (by intro q hq; simp only [List.mem_cons, List.not_mem_nil, or_false] at hq; rcases hq with rfl | rfl <;> rfl) ?_; intro w9 hh hg; have n0_ := Aside0.mk (pw_below_grown HB.out _ (below_size HB.out) hg (fun k e => by cases e; exact GO.out)); have n3_ := Aside0.mk (blk_grown BT.out hg (fun e => GN.out (by cases e; rfl))); have ho0 : w9.cell? ⟨go, 0, none⟩ = some (.int .i64 ((s : Int) + 2)) := (blk_cell hh 0).trans rfl; have ho1 : w9.cell? ⟨go, 1, none⟩ = some (.bool (hexSoft s 2)) := (blk_cell hh 1).trans rfl; clear HB BO BT; have HB := n0_; have BT := n3_; clear n0_ n3_; clear hh hg; have ht0 : w9.cell? ⟨gt, 0, none⟩ = some (.int .i64 t0) := (blk_cell BT.out 0).trans rfl; have ht1 : w9.cell? ⟨gt, 1, none⟩ = some (.bool t1) := (blk_cell BT.out 1).trans rfl))
        go_roundg 3
        case measure => omega
        case rel => exact ⟨3, rfl, ⟨rfl⟩, hS, BT, HB⟩
    · obtain rfl : u11 = .int .i64 3 := hv
      have hix : ∀ W : World, (Instr.index 46 (.agg #[.int .i64 (s : Int), .bool (hexSoft s 0), .int .i64 ((s : Int) + 1), .bool (hexSoft s 1), .int .i64 ((s : Int) + 2), .bool (hexSoft s 2), .int .i64 ((s : Int) + 3), .bool (hexSoft s 3), .int .i64 ((s : Int) + 4), .bool (hexSoft s 4), .int .i64 ((s : Int) + 5), .bool (hexSoft s 5)]) (.int .i64 3)).run Tryd.prog W = .ok (.agg #[.int .i64 ((s : Int) + 3), .bool (hexSoft s 3)]) W := fun W => by kernel_rfl
      obtain rfl : gk = 2 + 1 := by have := HI.out; omega
      by_cases c1 : ((s : Int) + 3) = t0
      · by_cases c2 : hexSoft s 3 = t1
        · skip
          have hS := Aside0.mk ((show (3 : Int) = syl s t0 t1 by rw [← HS.out]; exact (if_pos (by simp [c1, c2])).symm))
          clear HS
          replace c1 := eq_true c1
          replace c2 := eq_true c2
          go_wp2_with (first | ((with_reducible refine gate_dst (N := 6) rfl ?_); refine box_event ?hg (N := 6) ?hd (cs := #[.int .i64 0, .bool false]) (t := 25) ?hr ?_; (case hd => rfl); (case hg => rfl); (case hr => first | (go_simp; done) | (go_simp; rfl)); intro go hg w8 hbox hb; have n0_ := Aside0.mk (below_step HB.out hb); have n1_ := Aside0.mk hbox; have n2_ := Aside0.mk (blk_below BT.out hb); have n3_ := Aside0.mk ((by rw [hg]; exact below_size HB.out) : w.heap.size ≤ go); have n4_ := Aside0.mk ((by rw [hg]; exact Nat.ne_of_lt (blk_lt BT.out)) : gt ≠ go); clear HB BT ht0 ht1; have HB := n0_; have BO := n1_; have BT := n2_; have GO := n3_; have GN := n4_; clear n0_ n1_ n2_ n3_ n4_; clear hb hbox hg) | ((with_reducible refine gate_store (t := 25) (p := 6) rfl ?_); refine store_blk (g := go) (off := 0) (e := 25) (cs := [.int .i64 0, .bool false]) rfl rfl 25 6 (.tmp 14) rfl rfl (.agg #[.int .i64 ((s : Int) + 3), .bool (hexSoft s 3)]) rfl [.int .i64 ((s : Int) + 3), .bool (hexSoft s 3)] BO.out rfl hi25 (Nat.le_refl 2) (by intro q hq; simp only [List.mem_cons, List.not_mem_nil, or_false] at hq; rcases hq with rfl | rfl <;> rfl) ?_; intro w9 hh hg; have n0_ := Aside0.mk (pw_below_grown HB.out _ (below_size HB.out) hg (fun k e => by cases e; exact GO.out)); have n3_ := Aside0.mk (blk_grown BT.out hg (fun e => GN.out (by cases e; rfl))); have ho0 : w9.cell? ⟨go, 0, none⟩ = some (.int .i64 ((s : Int) + 3)) := (blk_cell hh 0).trans rfl; have ho1 : w9.cell? ⟨go, 1, none⟩ = some (.bool (hexSoft s 3)) := (blk_cell hh 1).trans rfl; clear HB BO BT; have HB := n0_; have BT := n3_; clear n0_ n3_; clear hh hg; have ht0 : w9.cell? ⟨gt, 0, none⟩ = some (.int .i64 t0) := (blk_cell BT.out 0).trans rfl; have ht1 : w9.cell? ⟨gt, 1, none⟩ = some (.bool t1) := (blk_cell BT.out 1).trans rfl))
          go_ret
          exact ⟨by rw [← hS.out]; rfl, HB.out⟩
        · skip
          have hS := Aside0.mk ((show sylFrom s t0 t1 2 4 = syl s t0 t1 by rw [← HS.out]; exact (if_neg (by simp [c1, c2])).symm))
          clear HS
          replace c1 := eq_true c1
          replace c2 := eq_false c2
          go_wp2_with (first | ((with_reducible refine gate_dst (N := 6) rfl ?_); refine box_event ?hg (N := 6) ?hd (cs := #[.int .i64 0, .bool false]) (t := 25) ?hr ?_; (case hd => rfl); (case hg => rfl); (case hr => first | (go_simp; done) | (go_simp; rfl)); intro go hg w8 hbox hb; have n0_ := Aside0.mk (below_step HB.out hb); have n1_ := Aside0.mk hbox; have n2_ := Aside0.mk (blk_below BT.out hb); have n3_ := Aside0.mk ((by rw [hg]; exact below_size HB.out) : w.heap.size ≤ go); have n4_ := Aside0.mk ((by rw [hg]; exact Nat.ne_of_lt (blk_lt BT.out)) : gt ≠ go); clear HB BT ht0 ht1; have HB := n0_; have BO := n1_; have BT := n2_; have GO := n3_; have GN := n4_; clear n0_ n1_ n2_ n3_ n4_; clear hb hbox hg) | ((with_reducible refine gate_store (t := 25) (p := 6) rfl ?_); refine store_blk (g := go) (off := 0) (e := 25) (cs := [.int .i64 0, .bool false]) rfl rfl 25 6 (.tmp 14) rfl rfl (.agg #[.int .i64 ((s : Int) + 3), .bool (hexSoft s 3)]) rfl [.int .i64 ((s : Int) + 3), .bool (hexSoft s 3)] BO.out rfl hi25 (Nat.le_refl 2) (by intro q hq; simp only [List.mem_cons, List.not_mem_nil, or_false] at hq; rcases hq with rfl | rfl <;> rfl) ?_; intro w9 hh hg; have n0_ := Aside0.mk (pw_below_grown HB.out _ (below_size HB.out) hg (fun k e => by cases e; exact GO.out)); have n3_ := Aside0.mk (blk_grown BT.out hg (fun e => GN.out (by cases e; rfl))); have ho0 : w9.cell? ⟨go, 0, none⟩ = some (.int .i64 ((s : Int) + 3)) := (blk_cell hh 0).trans rfl; have ho1 : w9.cell? ⟨go, 1, none⟩ = some (.bool (hexSoft s 3)) := (blk_cell hh 1).trans rfl; clear HB BO BT; have HB := n0_; have BT := n3_; clear n0_ n3_; clear hh hg; have ht0 : w9.cell? ⟨gt, 0, none⟩ = some (.int .i64 t0) := (blk_cell BT.out 0).trans rfl; have ht1 : w9.cell? ⟨gt, 1, none⟩ = some (.bool t1) := (blk_cell BT.out 1).trans rfl))
          go_roundg 2
          case measure => omega
          case rel => exact ⟨4, rfl, ⟨rfl⟩, hS, BT, HB⟩
      · skip
        have hS := Aside0.mk ((show sylFrom s t0 t1 2 4 = syl s t0 t1 by rw [← HS.out]; exact (if_neg (by simp [c1])).symm))
        clear HS
        replace c1 := eq_false c1
        go_wp2_with (first | ((with_reducible refine gate_dst (N := 6) rfl ?_); refine box_event ?hg (N := 6) ?hd (cs := #[.int .i64 0, .bool false]) (t := 25) ?hr ?_; (case hd => rfl); (case hg => rfl); (case hr => first | (go_simp; done) | (go_simp; rfl)); intro go hg w8 hbox hb; have n0_ := Aside0.mk (below_step HB.out hb); have n1_ := Aside0.mk hbox; have n2_ := Aside0.mk (blk_below BT.out hb); have n3_ := Aside0.mk ((by rw [hg]; exact below_size HB.out) : w.heap.size ≤ go); have n4_ := Aside0.mk ((by rw [hg]; exact Nat.ne_of_lt (blk_lt BT.out)) : gt ≠ go); clear HB BT ht0 ht1; have HB := n0_; have BO := n1_; have BT := n2_; have GO := n3_; have GN := n4_; clear n0_ n1_ n2_ n3_ n4_; clear hb hbox hg) | ((with_reducible refine gate_store (t := 25) (p := 6) rfl ?_); refine store_blk (g := go) (off := 0) (e := 25) (cs := [.int .i64 0, .bool false]) rfl rfl 25 6 (.tmp 14) rfl rfl (.agg #[.int .i64 ((s : Int) + 3), .bool (hexSoft s 3)]) rfl [.int .i64 ((s : Int) + 3), .bool (hexSoft s 3)] BO.out rfl hi25 (Nat.le_refl 2) (by intro q hq; simp only [List.mem_cons, List.not_mem_nil, or_false] at hq; rcases hq with rfl | rfl <;> rfl) ?_; intro w9 hh hg; have n0_ := Aside0.mk (pw_below_grown HB.out _ (below_size HB.out) hg (fun k e => by cases e; exact GO.out)); have n3_ := Aside0.mk (blk_grown BT.out hg (fun e => GN.out (by cases e; rfl))); have ho0 : w9.cell? ⟨go, 0, none⟩ = some (.int .i64 ((s : Int) + 3)) := (blk_cell hh 0).trans rfl; have ho1 : w9.cell? ⟨go, 1, none⟩ = some (.bool (hexSoft s 3)) := (blk_cell hh 1).trans rfl; clear HB BO BT; have HB := n0_; have BT := n3_; clear n0_ n3_; clear hh hg; have ht0 : w9.cell? ⟨gt, 0, none⟩ = some (.int .i64 t0) := (blk_cell BT.out 0).trans rfl; have ht1 : w9.cell? ⟨gt, 1, none⟩ = some (.bool t1) := (blk_cell BT.out 1).trans rfl))
        go_roundg 2
        case measure => omega
        case rel => exact ⟨4, rfl, ⟨rfl⟩, hS, BT, HB⟩
    · obtain rfl : u11 = .int .i64 4 := hv
      have hix : ∀ W : World, (Instr.index 46 (.agg #[.int .i64 (s : Int), .bool (hexSoft s 0), .int .i64 ((s : Int) + 1), .bool (hexSoft s 1), .int .i64 ((s : Int) + 2), .bool (hexSoft s 2), .int .i64 ((s : Int) + 3), .bool (hexSoft s 3), .int .i64 ((s : Int) + 4), .bool (hexSoft s 4), .int .i64 ((s : Int) + 5), .bool (hexSoft s 5)]) (.int .i64 4)).run Tryd.prog W = .ok (.agg #[.int .i64 ((s : Int) + 4), .bool (hexSoft s 4)]) W := fun W => by kernel_rfl
      obtain rfl : gk = 1 + 1 := by have := HI.out; omega
      by_cases c1 : ((s : Int) + 4) = t0
      · by_cases c2 : hexSoft s 4 = t1
        · skip
          have hS := Aside0.mk ((show (4 : Int) = syl s t0 t1 by rw [← HS.out]; exact (if_pos (by simp [c1, c2])).symm))
          clear HS
          replace c1 := eq_true c1
          replace c2 := eq_true c2
          go_wp2_with (first | ((with_reducible refine gate_dst (N := 6) rfl ?_); refine box_event ?hg (N := 6) ?hd (cs := #[.int .i64 0, .bool false]) (t := 25) ?hr ?_; (case hd => rfl); (case hg => rfl); (case hr => first | (go_simp; done) | (go_simp; rfl)); intro go hg w8 hbox hb; have n0_ := Aside0.mk (below_step HB.out hb); have n1_ := Aside0.mk hbox; have n2_ := Aside0.mk (blk_below BT.out hb); have n3_ := Aside0.mk ((by rw [hg]; exact below_size HB.out) : w.heap.size ≤ go); have n4_ := Aside0.mk ((by rw [hg]; exact Nat.ne_of_lt (blk_lt BT.out)) : gt ≠ go); clear HB BT ht0 ht1; have HB := n0_; have BO := n1_; have BT := n2_; have GO := n3_; have GN := n4_; clear n0_ n1_ n2_ n3_ n4_; clear hb hbox hg) | ((with_reducible refine gate_store (t := 25) (p := 6) rfl ?_); refine store_blk (g := go) (off := 0) (e := 25) (cs := [.int .i64 0, .bool false]) rfl rfl 25 6 (.tmp 14) rfl rfl (.agg #[.int .i64 ((s : Int) + 4), .bool (hexSoft s 4)]) rfl [.int .i64 ((s : Int) + 4), .bool (hexSoft s 4)] BO.out rfl hi25 (Nat.le_refl 2) (by intro q hq; simp only [List.mem_cons, List.not_mem_nil, or_false] at hq; rcases hq with rfl | rfl <;> rfl) ?_; intro w9 hh hg; have n0_ := Aside0.mk (pw_below_grown HB.out _ (below_size HB.out) hg (fun k e => by cases e; exact GO.out)); have n3_ := Aside0.mk (blk_grown BT.out hg (fun e => GN.out (by cases e; rfl))); have ho0 : w9.cell? ⟨go, 0, none⟩ = some (.int .i64 ((s : Int) + 4)) := (blk_cell hh 0).trans rfl; have ho1 : w9.cell? ⟨go, 1, none⟩ = some (.bool (hexSoft s 4)) := (blk_cell hh 1).trans rfl; clear HB BO BT; have HB := n0_; have BT := n3_; clear n0_ n3_; clear hh hg; have ht0 : w9.cell? ⟨gt, 0, none⟩ = some (.int .i64 t0) := (blk_cell BT.out 0).trans rfl; have ht1 : w9.cell? ⟨gt, 1, none⟩ = some (.bool t1) := (blk_cell BT.out 1).trans rfl))
          go_ret
          exact ⟨by rw [← hS.out]; rfl, HB.out⟩
        · skip
          have hS := Aside0.mk ((show sylFrom s t0 t1 1 5 = syl s t0 t1 by rw [← HS.out]; exact (if_neg (by simp [c1, c2])).symm))
          clear HS
          replace c1 := eq_true c1
          replace c2 := eq_false c2
          go_wp2_with (first | ((with_reducible refine gate_dst (N := 6) rfl ?_); refine box_event ?hg (N := 6) ?hd (cs := #[.int .i64 0, .bool false]) (t := 25) ?hr ?_; (case hd => rfl); (case hg => rfl); (case hr => first | (go_simp; done) | (go_simp; rfl)); intro go hg w8 hbox hb; have n0_ := Aside0.mk (below_step HB.out hb); have n1_ := Aside0.mk hbox; have n2_ := Aside0.mk (blk_below BT.out hb); have n3_ := Aside0.mk ((by rw [hg]; exact below_size HB.out) : w.heap.size ≤ go); have n4_ := Aside0.mk ((by rw [hg]; exact Nat.ne_of_lt (blk_lt BT.out)) : gt ≠ go); clear HB BT ht0 ht1; have HB := n0_; have BO := n1_; have BT := n2_; have GO := n3_; have GN := n4_; clear n0_ n1_ n2_ n3_ n4_; clear hb hbox hg) | ((with_reducible refine gate_store (t := 25) (p := 6) rfl ?_); refine store_blk (g := go) (off := 0) (e := 25) (cs := [.int .i64 0, .bool false]) rfl rfl 25 6 (.tmp 14) rfl rfl (.agg #[.int .i64 ((s : Int) + 4), .bool (hexSoft s 4)]) rfl [.int .i64 ((s : Int) + 4), .bool (hexSoft s 4)] BO.out rfl hi25 (Nat.le_refl 2) (by intro q hq; simp only [List.mem_cons, List.not_mem_nil, or_false] at hq; rcases hq with rfl | rfl <;> rfl) ?_; intro w9 hh hg; have n0_ := Aside0.mk (pw_below_grown HB.out _ (below_size HB.out) hg (fun k e => by cases e; exact GO.out)); have n3_ := Aside0.mk (blk_grown BT.out hg (fun e => GN.out (by cases e; rfl))); have ho0 : w9.cell? ⟨go, 0, none⟩ = some (.int .i64 ((s : Int) + 4)) := (blk_cell hh 0).trans rfl; have ho1 : w9.cell? ⟨go, 1, none⟩ = some (.bool (hexSoft s 4)) := (blk_cell hh 1).trans rfl; clear HB BO BT; have HB := n0_; have BT := n3_; clear n0_ n3_; clear hh hg; have ht0 : w9.cell? ⟨gt, 0, none⟩ = some (.int .i64 t0) := (blk_cell BT.out 0).trans rfl; have ht1 : w9.cell? ⟨gt, 1, none⟩ = some (.bool t1) := (blk_cell BT.out 1).trans rfl))
          go_roundg 1
          case measure => omega
          case rel => exact ⟨5, rfl, ⟨rfl⟩, hS, BT, HB⟩
      · skip
        have hS := Aside0.mk ((show sylFrom s t0 t1 1 5 = syl s t0 t1 by rw [← HS.out]; exact (if_neg (by simp [c1])).symm))
        clear HS
        replace c1 := eq_false c1
        go_wp2_with (first | ((with_reducible refine gate_dst (N := 6) rfl ?_); refine box_event ?hg (N := 6) ?hd (cs := #[.int .i64 0, .bool false]) (t := 25) ?hr ?_; (case hd => rfl); (case hg => rfl); (case hr => first | (go_simp; done) | (go_simp; rfl)); intro go hg w8 hbox hb; have n0_ := Aside0.mk (below_step HB.out hb); have n1_ := Aside0.mk hbox; have n2_ := Aside0.mk (blk_below BT.out hb); have n3_ := Aside0.mk ((by rw [hg]; exact below_size HB.out) : w.heap.size ≤ go); have n4_ := Aside0.mk ((by rw [hg]; exact Nat.ne_of_lt (blk_lt BT.out)) : gt ≠ go); clear HB BT ht0 ht1; have HB := n0_; have BO := n1_; have BT := n2_; have GO := n3_; have GN := n4_; clear n0_ n1_ n2_ n3_ n4_; clear hb hbox hg) | ((with_reducible refine gate_store (t := 25) (p := 6) rfl ?_); refine store_blk (g := go) (off := 0) (e := 25) (cs := [.int .i64 0, .bool false]) rfl rfl 25 6 (.tmp 14) rfl rfl (.agg #[.int .i64 ((s : Int) + 4), .bool (hexSoft s 4)]) rfl [.int .i64 ((s : Int) + 4), .bool (hexSoft s 4)] BO.out rfl hi25 (Nat.le_refl 2) (by intro q hq; simp only [List.mem_cons, List.not_mem_nil, or_false] at hq; rcases hq with rfl | rfl <;> rfl) ?_; intro w9 hh hg; have n0_ := Aside0.mk (pw_below_grown HB.out _ (below_size HB.out) hg (fun k e => by cases e; exact GO.out)); have n3_ := Aside0.mk (blk_grown BT.out hg (fun e => GN.out (by cases e; rfl))); have ho0 : w9.cell? ⟨go, 0, none⟩ = some (.int .i64 ((s : Int) + 4)) := (blk_cell hh 0).trans rfl; have ho1 : w9.cell? ⟨go, 1, none⟩ = some (.bool (hexSoft s 4)) := (blk_cell hh 1).trans rfl; clear HB BO BT; have HB := n0_; have BT := n3_; clear n0_ n3_; clear hh hg; have ht0 : w9.cell? ⟨gt, 0, none⟩ = some (.int .i64 t0) := (blk_cell BT.out 0).trans rfl; have ht1 : w9.cell? ⟨gt, 1, none⟩ = some (.bool t1) := (blk_cell BT.out 1).trans rfl))
        go_roundg 1
        case measure => omega
        case rel => exact ⟨5, rfl, ⟨rfl⟩, hS, BT, HB⟩
    · obtain rfl : u11 = .int .i64 5 := hv
      have hix : ∀ W : World, (Instr.index 46 (.agg #[.int .i64 (s : Int), .bool (hexSoft s 0), .int .i64 ((s : Int) + 1), .bool (hexSoft s 1), .int .i64 ((s : Int) + 2), .bool (hexSoft s 2), .int .i64 ((s : Int) + 3), .bool (hexSoft s 3), .int .i64 ((s : Int) + 4), .bool (hexSoft s 4), .int .i64 ((s : Int) + 5), .bool (hexSoft s 5)]) (.int .i64 5)).run Tryd.prog W = .ok (.agg #[.int .i64 ((s : Int) + 5), .bool (hexSoft s 5)]) W := fun W => by kernel_rfl
      obtain rfl : gk = 0 + 1 := by have := HI.out; omega
      by_cases c1 : ((s : Int) + 5) = t0
      · by_cases c2 : hexSoft s 5 = t1
        · skip
          have hS := Aside0.mk ((show (5 : Int) = syl s t0 t1 by rw [← HS.out]; exact (if_pos (by simp [c1, c2])).symm))
          clear HS
          replace c1 := eq_true c1
          replace c2 := eq_true c2
          go_wp2_with (first | ((with_reducible refine gate_dst (N := 6) rfl ?_); refine box_event ?hg (N := 6) ?hd (cs := #[.int .i64 0, .bool false]) (t := 25) ?hr ?_; (case hd => rfl); (case hg => rfl); (case hr => first | (go_simp; done) | (go_simp; rfl)); intro go hg w8 hbox hb; have n0_ := Aside0.mk (below_step HB.out hb); have n1_ := Aside0.mk hbox; have n2_ := Aside0.mk (blk_below BT.out hb); have n3_ := Aside0.mk ((by rw [hg]; exact below_size HB.out) : w.heap.size ≤ go); have n4_ := Aside0.mk ((by rw [hg]; exact Nat.ne_of_lt (blk_lt BT.out)) : gt ≠ go); clear HB BT ht0 ht1; have HB := n0_; have BO := n1_; have BT := n2_; have GO := n3_; have GN := n4_; clear n0_ n1_ n2_ n3_ n4_; clear hb hbox hg) | ((with_reducible refine gate_store (t := 25) (p := 6) rfl ?_); refine store_blk (g := go) (off := 0) (e := 25) (cs := [.int .i64 0, .bool false]) rfl rfl 25 6 (.tmp 14) rfl rfl (.agg #[.int .i64 ((s : Int) + 5), .bool (hexSoft s 5)]) rfl [.int .i64 ((s : Int) + 5), .bool (hexSoft s 5)] BO.out rfl hi25 (Nat.le_refl 2) (by intro q hq; simp only [List.mem_cons, List.not_mem_nil, or_false] at hq; rcases hq with rfl | rfl <;> rfl) ?_; intro w9 hh hg; have n0_ := Aside0.mk (pw_below_grown HB.out _ (below_size HB.out) hg (fun k e => by cases e; exact GO.out)); have n3_ := Aside0.mk (blk_grown BT.out hg (fun e => GN.out (by cases e; rfl))); have ho0 : w9.cell? ⟨go, 0, none⟩ = some (.int .i64 ((s : Int) + 5)) := (blk_cell hh 0).trans rfl; have ho1 : w9.cell? ⟨go, 1, none⟩ = some (.bool (hexSoft s 5)) := (blk_cell hh 1).trans rfl; clear HB BO BT; have HB := n0_; have BT := n3_; clear n0_ n3_; clear hh hg; have ht0 : w9.cell? ⟨gt, 0, none⟩ = some (.int .i64 t0) := (blk_cell BT.out 0).trans rfl; have ht1 : w9.cell? ⟨gt, 1, none⟩ = some (.bool t1) := (blk_cell BT.out 1).trans rfl))
          go_ret
          exact ⟨by rw [← hS.out]; rfl, HB.out⟩
        · skip
          have hS := Aside0.mk ((show sylFrom s t0 t1 0 6 = syl s t0 t1 by rw [← HS.out]; exact (if_neg (by simp [c1, c2])).symm))
          clear HS
          replace c1 := eq_true c1
          replace c2 := eq_false c2
          go_wp2_with (first | ((with_reducible refine gate_dst (N := 6) rfl ?_); refine box_event ?hg (N := 6) ?hd (cs := #[.int .i64 0, .bool false]) (t := 25) ?hr ?_; (case hd => rfl); (case hg => rfl); (case hr => first | (go_simp; done) | (go_simp; rfl)); intro go hg w8 hbox hb; have n0_ := Aside0.mk (below_step HB.out hb); have n1_ := Aside0.mk hbox; have n2_ := Aside0.mk (blk_below BT.out hb); have n3_ := Aside0.mk ((by rw [hg]; exact below_size HB.out) : w.heap.size ≤ go); have n4_ := Aside0.mk ((by rw [hg]; exact Nat.ne_of_lt (blk_lt BT.out)) : gt ≠ go); clear HB BT ht0 ht1; have HB := n0_; have BO := n1_; have BT := n2_; have GO := n3_; have GN := n4_; clear n0_ n1_ n2_ n3_ n4_; clear hb hbox hg) | ((with_reducible refine gate_store (t := 25) (p := 6) rfl ?_); refine store_blk (g := go) (off := 0) (e := 25) (cs := [.int .i64 0, .bool false]) rfl rfl 25 6 (.tmp 14) rfl rfl (.agg #[.int .i64 ((s : Int) + 5), .bool (hexSoft s 5)]) rfl [.int .i64 ((s : Int) + 5), .bool (hexSoft s 5)] BO.out rfl hi25 (Nat.le_refl 2) (by intro q hq; simp only [List.mem_cons, List.not_mem_nil, or_false] at hq; rcases hq with rfl | rfl <;> rfl) ?_; intro w9 hh hg; have n0_ := Aside0.mk (pw_below_grown HB.out _ (below_size HB.out) hg (fun k e => by cases e; exact GO.out)); have n3_ := Aside0.mk (blk_grown BT.out hg (fun e => GN.out (by cases e; rfl))); have ho0 : w9.cell? ⟨go, 0, none⟩ = some (.int .i64 ((s : Int) + 5)) := (blk_cell hh 0).trans rfl; have ho1 : w9.cell? ⟨go, 1, none⟩ = some (.bool (hexSoft s 5)) := (blk_cell hh 1).trans rfl; clear HB BO BT; have HB := n0_; have BT := n3_; clear n0_ n3_; clear hh hg; have ht0 : w9.cell? ⟨gt, 0, none⟩ = some (.int .i64 t0) := (blk_cell BT.out 0).trans rfl; have ht1 : w9.cell? ⟨gt, 1, none⟩ = some (.bool t1) := (blk_cell BT.out 1).trans rfl))
          go_roundg 0
          case measure => omega
          case rel => exact ⟨6, rfl, ⟨rfl⟩, hS, BT, HB⟩
      · skip
        have hS := Aside0.mk ((show sylFrom s t0 t1 0 6 = syl s t0 t1 by rw [← HS.out]; exact (if_neg (by simp [c1])).symm))
        clear HS
        replace c1 := eq_false c1
        go_wp2_with (first | ((with_reducible refine gate_dst (N := 6) rfl ?_); refine box_event ?hg (N := 6) ?hd (cs := #[.int .i64 0, .bool false]) (t := 25) ?hr ?_; (case hd => rfl); (case hg => rfl); (case hr => first | (go_simp; done) | (go_simp; rfl)); intro go hg w8 hbox hb; have n0_ := Aside0.mk (below_step HB.out hb); have n1_ := Aside0.mk hbox; have n2_ := Aside0.mk (blk_below BT.out hb); have n3_ := Aside0.mk ((by rw [hg]; exact below_size HB.out) : w.heap.size ≤ go); have n4_ := Aside0.mk ((by rw [hg]; exact Nat.ne_of_lt (blk_lt BT.out)) : gt ≠ go); clear HB BT ht0 ht1; have HB := n0_; have BO := n1_; have BT := n2_; have GO := n3_; have GN := n4_; clear n0_ n1_ n2_ n3_ n4_; clear hb hbox hg) | ((with_reducible refine gate_store (t := 25) (p := 6) rfl ?_); refine store_blk (g := go) (off := 0) (e := 25) (cs := [.int .i64 0, .bool false]) rfl rfl 25 6 (.tmp 14) rfl rfl (.agg #[.int .i64 ((s : Int) + 5), .bool (hexSoft s 5)]) rfl [.int .i64 ((s : Int) + 5), .bool (hexSoft s 5)] BO.out rfl hi25 (Nat.le_refl 2) (by intro q hq; simp only [List.mem_cons, List.not_mem_nil, or_false] at hq; rcases hq with rfl | rfl <;> rfl) ?_; intro w9 hh hg; have n0_ := Aside0.mk (pw_below_grown HB.out _ (below_size HB.out) hg (fun k e => by cases e; exact GO.out)); have n3_ := Aside0.mk (blk_grown BT.out hg (fun e => GN.out (by cases e; rfl))); have ho0 : w9.cell? ⟨go, 0, none⟩ = some (.int .i64 ((s : Int) + 5)) := (blk_cell hh 0).trans rfl; have ho1 : w9.cell? ⟨go, 1, none⟩ = some (.bool (hexSoft s 5)) := (blk_cell hh 1).trans rfl; clear HB BO BT; have HB := n0_; have BT := n3_; clear n0_ n3_; clear hh hg; have ht0 : w9.cell? ⟨gt, 0, none⟩ = some (.int .i64 t0) := (blk_cell BT.out 0).trans rfl; have ht1 : w9.cell? ⟨gt, 1, none⟩ = some (.bool t1) := (blk_cell BT.out 1).trans rfl))
        go_roundg 0
        case measure => omega
        case rel => exact ⟨6, rfl, ⟨rfl⟩, hS, BT, HB⟩
    · obtain rfl : u11 = .int .i64 6 := hv
      obtain rfl : gk = 0 := by have := HI.out; omega
      have hS := Aside0.mk ((show (-1 : Int) = syl s t0 t1 by rw [← HS.out]; rfl))
      go_wp2
      go_ret
      exact ⟨by rw [← hS.out]; rfl, HB.out⟩

/-! ### impl_HexAll: function 10 -/
/-- The starts among l whose hexachords have a tone. -/
def hexHave (t0 : Int) (t1 : Bool) (l : List Nat) : List Int := (l.filter (fun s => decide (0 ≤ syl s t0 t1))).map (fun s : Nat => (s : Int))
def impl_HexAll.f (t0 : Int) (t1 : Bool) : Option (List Int) := some (hexHave t0 t1 hexStarts)
theorem hexHave_len (t0 : Int) (t1 : Bool) (l : List Nat) : (hexHave t0 t1 l).length ≤ l.length := by
  unfold hexHave
  rw [List.length_map]
  exact List.length_filter_le _ _
theorem hexHave_yes {t0 : Int} {t1 : Bool} {s : Nat} {l : List Nat} (h : 0 ≤ syl s t0 t1) : hexHave t0 t1 (s :: l) = (s : Int) :: hexHave t0 t1 l := by
  simp [hexHave, h]
theorem hexHave_no {t0 : Int} {t1 : Bool} {s : Nat} {l : List Nat} (h : ¬ 0 ≤ syl s t0 t1) : hexHave t0 t1 (s :: l) = hexHave t0 t1 l := by
  simp [hexHave, h]
theorem starts_drop (i : Nat) (h : i < 7) : hexStarts.drop i = hexStarts.getD i 0 :: hexStarts.drop (i + 1) := by
  have hl : i < hexStarts.length := h
  rw [List.drop_eq_getElem_cons hl, List.getD_eq_getElem?_getD, List.getElem?_eq_getElem hl]
  rfl
set_option maxHeartbeats 4000000 in
set_option maxRecDepth 100000 in
theorem impl_HexAll.calls (t0 : Int) (t1 : Bool) (r : List Int) (w : World) (h : impl_HexAll.f t0 t1 = some r) (hG : Aside0 (GL w)) :
    Calls Tryd.prog 10 #[.agg #[.int .i64 t0, .bool t1]] w fun e w' => ∃ v0_ : Value, e = .returned v0_ ∧ Kd.R (Kd.int .i64) 3 w' w.heap.size (fun _ => True) v0_ r ∧ Below w.heap.size w w' := by
  have HB : Aside0 (Below w.heap.size w w) := ⟨Below.refl _ _⟩
  have HH := Aside0.mk (Option.some.inj h)
  have HG1 : Aside0 (GH w) := ⟨GL.gh hG.out⟩
  clear h hG
  go_enter Tryd.func10, Tryd.ntmps10
  go_wp2_with (first | ((with_reducible refine gate_dst (N := 1) rfl ?_); refine box_event ?hg (N := 1) ?hd (cs := #[.int .i64 t0, .bool t1]) (t := 25) ?hr ?_; (case hd => rfl); (case hg => rfl); (case hr => first | (go_simp; done) | (go_simp; rfl)); intro gt hg w8 hbox hb; have n0_ := Aside0.mk (below_step HB.out hb); have n1_ := Aside0.mk hbox; clear HB; have HB := n0_; have BO := n1_; clear n0_ n1_; clear hb hbox hg) | ((with_reducible refine gate_dst (N := 6) rfl ?_); refine Kd.R_lit (Kd.int .i64) _ 3 ?hg (N := 6) ?hd (xs := ([] : List Int)) (inner := []) (ok := fun _ => True) (okp := fun _ => True) ?hr ?hp (fun _ hk => hk) trivial (Below.refl _ _) (Nat.le_refl _) (by simp) ?_; (case hd => rfl); (case hg => rfl); (case hr => first | (go_simp; done) | (go_simp; rfl)); (case hp => exact (Reps.none _ _)); intro va w2 ho3 hb hg_ hnew_; clear hg_ hnew_; have n0_ := Aside0.mk (Kd.R_lower ho3 (below_size HB.out)); have n1_ := Aside0.mk (below_step HB.out hb); have n2_ := Aside0.mk (blk_below BO.out hb); clear HB BO; have HO := n0_; have HB := n1_; have BO := n2_; clear n0_ n1_ n2_; clear hb ho3) | ((with_reducible refine gate_callee (f := 20) rfl ?_); refine goesL_ (some 7) rfl rfl Tryd.func20 (by kernel_rfl) rfl #[] rfl (by simp) ?_; (with_reducible refine (impl_hexachords.calls _ (GH.aside HG1 HB.out)).mono ?_); rintro e w4 ⟨g0, v, rfl, ht, hr, hge, hb⟩; refine ⟨_, rfl, ?_⟩; obtain ⟨gl, cap, ev_, hgl, _, _⟩ := Kd.R_form hr (by decide); rw [show hexStarts.length = 7 from rfl] at ev_; subst ev_; have n0_ := Aside0.mk (below_step HB.out hb); have n1_ := Aside0.mk (blk_below BO.out hb); have n2_ := Aside0.mk (Kd.R_below HO.out hb); have HR := Aside0.mk (Kd.R_lower hr (below_size HB.out)); have BT := Aside0.mk ht; clear HB BO HO; have HB := n0_; have BO := n1_; have HO := n2_; clear n0_ n1_ n2_ hb hr ht hge hgl; have ht0 : w4.cell? ⟨g0, 0, none⟩ = some (.slice (some ⟨gl, 0, none⟩) 7 cap) := (blk_cell BT.out 0).trans rfl))
  clear ht0
  go_loopg [3, 13] 7 (fun kq v3 v13 w' => ∃ (acc : List Int) (i : Nat), v13 = .int .i64 (i : Int) ∧ Aside0 (i + kq = 7) ∧ Aside0 (acc ++ hexHave t0 t1 (hexStarts.drop i) = r) ∧ Aside0 (acc.length ≤ i) ∧ Aside0 (Kd.R (Kd.int .i64) 3 w' w.heap.size (fun _ => True) v3 acc) ∧ Aside0 (w'.heap[gt]? = some (.cells #[.int .i64 t0, .bool t1] 25 (0, 0))) ∧ Aside0 (w'.heap[g0]? = some (.cells #[.slice (some ⟨gl, 0, none⟩) 7 cap] 45 (0, 0))) ∧ Aside0 (Kd.R kHex 48 w' w.heap.size (fun _ => True) (.slice (some ⟨gl, 0, none⟩) 7 cap) hexStarts) ∧ Aside0 (Below w.heap.size w w'))
  case atStart => exact ⟨[], 0, rfl, ⟨rfl⟩, ⟨by simpa using HH.out⟩, ⟨Nat.le_refl _⟩, HO, BO, BT, HR, HB⟩
  case round =>
    clear HB HO BO BT HR HH
    obtain ⟨acc, i, rfl, HI, HA, HN, HO, BO, BT, HR, HB⟩ := hrel
    cases gk with
    | zero =>
      obtain rfl : i = 7 := by have := HI.out; omega
      obtain rfl : acc = r := by have := HA.out; simpa [hexHave, hexStarts] using this
      go_wp2
      go_ret
      exact ⟨_, rfl, HO.out, HB.out⟩
    | succ k =>
      have hi : i < 7 := by have := HI.out; omega
      have p1 : 0 ≤ (i : Int) := by omega
      have q1 : (i : Int) < 7 := by omega
      obtain ⟨c, _, hM, hc, _⟩ := Kd.R_elem HR.out 0 (i : Int) p1 q1
      obtain ⟨s, hs⟩ : ∃ s, hexStarts.getD i 0 = s := ⟨_, rfl⟩
      rw [Int.toNat_natCast] at hM hc
      obtain rfl : c = hexCells s := by rw [← hs]; exact hM
      have HC := Aside0.mk (show ∀ j u, (hexCells s)[j]? = some u → wr.cell? ⟨gl, i * 13 + j, none⟩ = some u from hc)
      obtain ⟨y, hy⟩ : ∃ y, syl s t0 t1 = y := ⟨_, rfl⟩
      have Hy := Aside0.mk hy
      have HD := Aside0.mk (starts_drop i hi)
      have HS := Aside0.mk hs
      clear hs hy hM hc
      have q2 : decide ((i : Int) < 7) = true := decide_eq_true q1
      replace p1 := eq_true p1
      replace q1 := eq_true q1
      have hx0 : wr.cell? ⟨gl, i * 13, none⟩ = some (.int .i64 (s : Int)) := HC.out 0 _ rfl
      have ht0 : wr.cell? ⟨g0, 0, none⟩ = some (.slice (some ⟨gl, 0, none⟩) 7 cap) := (blk_cell BT.out 0).trans rfl
      have hb0 : wr.cell? ⟨gt, 0, none⟩ = some (.int .i64 t0) := (blk_cell BO.out 0).trans rfl
      have hb1 : wr.cell? ⟨gt, 1, none⟩ = some (.bool t1) := (blk_cell BO.out 1).trans rfl
      go_wp2
      go_region_with (go_at_call 21; refine (impl_hexachord_syllable.calls s gl (i * 13) t0 t1 wr.drew HC.out).mono ?_; rintro e w6 ⟨he, hb⟩; rw [Hy.out] at he; subst he)
      all_goals
        have HBd := Aside0.mk (below_step (below_drew1 HB.out) hb)
        have HOd := Aside0.mk (Kd.R_below (Kd.R_drew HO.out) hb)
        have BOd := Aside0.mk (blk_below (blk_drew BO.out) hb)
        have BTd := Aside0.mk (blk_below (blk_drew BT.out) hb)
        have HRd := Aside0.mk (Kd.R_below (Kd.R_drew HR.out) hb)
        have hx1 : w6.cell? ⟨gl, i * 13, none⟩ = some (.int .i64 (s : Int)) := pw_cell_below hb (HC.out 0 _ rfl)
        clear HB HO BO BT HR hx0 ht0 hb0 hb1 HC hb
        have hx0 := hx1
        clear hx1
        have ht0 : w6.cell? ⟨g0, 0, none⟩ = some (.slice (some ⟨gl, 0, none⟩) 7 cap) := (blk_cell BTd.out 0).trans rfl
        by_cases hy : 0 ≤ y
        · have HA2 := Aside0.mk (show (acc ++ [(s : Int)]) ++ hexHave t0 t1 (hexStarts.drop (i + 1)) = r by rw [← HA.out, HD.out, HS.out, hexHave_yes (by rw [Hy.out]; exact hy), List.append_assoc]; rfl)
          clear HA
          go_wp2_with (first | ((with_reducible refine gate_builtin (b := .append) (xs := #[.tmp 25, .tmp 34]) rfl ?_); at_builtin; refine Kd.R_append (Kd.int .i64) (w0 := w) w.heap.size rfl (.tmp 25) (.tmp 34) 28 3 (.int .i64 0) 8 rfl Tryd.underlying28 info3 rfl (by decide) (by omega) u3 acc (s : Int) [.int .i64 (s : Int)] (fun _ => True) (fun _ => False) rfl rfl ?aP (fun _ hk => hk.elim) ?aF ?aO ?aB ?aS ?aL ?_; (case aP => exact rfl); (case aB => exact HBd.out); (case aF => exact (fun _ _ => trivial)); (case aO => exact HOd.out); (case aS => exact below_size HBd.out); (case aL => have := HN.out; omega); intro v125 w11 ho hb hg hat; have n0_ := Aside0.mk (blk_grown BOd.out hg (Kd.R_ne HOd.out BOd.out (by decide))); have n1_ := Aside0.mk (blk_grown BTd.out hg (Kd.R_ne HOd.out BTd.out (by decide))); have n2_ := Aside0.mk (Kd.R_over HRd.out HOd.out (by decide) hg); have n3_ := Aside0.mk hb; have n4_ := Aside0.mk ho; clear HBd HOd BOd BTd HRd ht0 hx0; have HBe := n3_; have HOe := n4_; have BOe := n0_; have BTe := n1_; have HRe := n2_; clear n0_ n1_ n2_ n3_ n4_ ho hb hg hat))
          go_roundg k
          case measure => omega
          case rel => exact ⟨acc ++ [(s : Int)], i + 1, by first | rfl | (congr 1), ⟨by have := HI.out; omega⟩, HA2, ⟨by have := HN.out; simp; omega⟩, HOe, BOe, BTe, HRe, HBe⟩
        · have HA2 := Aside0.mk (show acc ++ hexHave t0 t1 (hexStarts.drop (i + 1)) = r by rw [← HA.out, HD.out, HS.out, hexHave_no (by rw [Hy.out]; exact hy)])
          replace hy : y < 0 := by omega
          clear HA
          go_wp2
          go_roundg k
          case measure => omega
          case rel => exact ⟨acc, i + 1, by first | rfl | (congr 1), ⟨by have := HI.out; omega⟩, HA2, ⟨by have := HN.out; omega⟩, HOd, BOd, BTd, HRd, HBd⟩

/-! ### laws_eqIntS: function 11 -/
def laws_eqIntS.l0 : Nat → List Int → List Int → Int → Option (Bool)
  | 0, _, _, _ => none
  | k + 1, x0, x1, x5 => if x5 < (x0.length : Int) then (if 0 ≤ x5 then (if x5 < (x1.length : Int) then (if (rd x0 x5) = (rd x1 x5) then (laws_eqIntS.l0 k x0 x1 (wrap64 (x5 + 1))) else (some false)) else (none)) else (none)) else (some true)
def laws_eqIntS.f (k : Nat) (l0 : List Int) (l1 : List Int) : Option (Bool) := if (l0.length : Int) = (l1.length : Int) then (laws_eqIntS.l0 k l0 l1 0) else (some false)
theorem laws_eqIntS.mono_l : ∀ k, (∀ y0 y1 y2, LeO (laws_eqIntS.l0 k y0 y1 y2) (laws_eqIntS.l0 (k + 1) y0 y1 y2))
  | 0 => fun _ _ _ r h => by simp [laws_eqIntS.l0] at h
  | k + 1 => by
    have ih0 := laws_eqIntS.mono_l k
    · intro y0 y1 y2
      unfold laws_eqIntS.l0
      repeat' first
      | (with_reducible exact ih0 _ _ _)
      | (with_reducible exact LeO.refl _)
      | (with_reducible exact LeO.none _)
      | (with_reducible refine LeO.ite ?_ ?_)
      | (with_reducible refine LeO.bind ?_ (fun _ => ?_))
      | exact ih0 _ _ _
      | exact LeO.none _
      | refine LeO.ite ?_ ?_
      | refine LeO.bind ?_ (fun _ => ?_)
theorem laws_eqIntS.mono : ∀ a0 a1 k, LeO (laws_eqIntS.f k a0 a1) (laws_eqIntS.f (k + 1) a0 a1) := by
  intro a0 a1 k
  have ih0 := laws_eqIntS.mono_l k
  unfold laws_eqIntS.f
  repeat' first
      | (with_reducible exact ih0 _ _ _)
      | (with_reducible exact LeO.refl _)
      | (with_reducible exact LeO.none _)
      | (with_reducible refine LeO.ite ?_ ?_)
      | (with_reducible refine LeO.bind ?_ (fun _ => ?_))
      | exact ih0 _ _ _
      | exact LeO.none _
      | refine LeO.ite ?_ ?_
      | refine LeO.bind ?_ (fun _ => ?_)
set_option maxHeartbeats 8000000 in
set_option maxRecDepth 100000 in
theorem laws_eqIntS.calls (k : Nat) (A0 : Option Addr) (c0 : Nat) (l0 : List Int) (A1 : Option Addr) (c1 : Nat) (l1 : List Int) (r : Bool) (w : World) (hr0 : Kd.C (Kd.int .i64) w A0 l0.length l0) (hc0 : l0.length ≤ c0) (hr1 : Kd.C (Kd.int .i64) w A1 l1.length l1) (hc1 : l1.length ≤ c1) (h : laws_eqIntS.f k l0 l1 = some r) :
    Calls Tryd.prog 11 #[.slice A0 l0.length c0, .slice A1 l1.length c1] w fun e w' => e = .returned (.bool r) ∧ Drawn0 w w' := by
  have HR0 := Aside0.mk hr0
  have HC0 := Aside0.mk hc0
  clear hr0 hc0
  have HR1 := Aside0.mk hr1
  have HC1 := Aside0.mk hc1
  clear hr1 hc1
  have H : (if (l0.length : Int) = (l1.length : Int) then (laws_eqIntS.l0 k l0 l1 0) else (some false)) = some r := h
  clear h
  by_cases c3 : (l0.length : Int) = (l1.length : Int)
  · rw [if_pos c3] at H
    have c3b0 : ((l0.length : Int) == (l1.length : Int)) = true := beq_iff_eq.mpr c3
    have c3b1 : ((l0.length : Int) != (l1.length : Int)) = false := bne_eq_false_iff_eq.mpr c3
    have c3b2 : (l0.length == l1.length) = true := by first | simpa using c3 | (simp at c3 ⊢; omega)
    clear c3
    have H' := Aside0.mk H
    clear H
    go_enter Tryd.func11, Tryd.ntmps11
    go_wp2
    repeat (go_quiet (fail); try go_wp2)
    go_loopg [5] k (fun kq v5 w' => ∃ (x5_1 : Int), v5 = .int .i64 x5_1 ∧ Aside0 (laws_eqIntS.l0 kq l0 l1 x5_1 = some r) ∧ Aside0 (kq ≤ k) ∧ Drawn0 w w')
    case atStart => exact ⟨(0), (by first | rfl | (simp; done) | (simp [*]; done)), H', ⟨Nat.le_refl _⟩, by repeat (first | exact Drawn0.refl _ | apply Drawn0.step)⟩
    case round =>
      clear H'
      try clear c1
      try clear p2
      try clear c3
      try clear c3b0
      try clear c3b1
      try clear c3b2
      obtain ⟨x5_1, rfl, HA, HK1, ⟨m1, rfl⟩⟩ := hrel
      cases gk with
      | zero => exact absurd HA.out (by simp [laws_eqIntS.l0])
      | succ k1 =>
        have H := HA.out
        clear HA
        simp only [laws_eqIntS.l0] at H
        by_cases c4 : x5_1 < (l0.length : Int)
        · rw [if_pos c4] at H
          have c4b0 : decide (x5_1 < (l0.length : Int)) = true := decide_eq_true c4
          clear c4
          by_cases c5 : 0 ≤ x5_1
          · rw [if_pos c5] at H
            have c5b0 : decide (0 ≤ x5_1) = true := decide_eq_true c5
            clear c5
            by_cases c6 : x5_1 < (l1.length : Int)
            · rw [if_pos c6] at H
              have c6b0 : decide (x5_1 < (l1.length : Int)) = true := decide_eq_true c6
              clear c6
              by_cases c7 : (rd l0 x5_1) = (rd l1 x5_1)
              · rw [if_pos c7] at H
                have c7b0 : ((rd l0 x5_1) == (rd l1 x5_1)) = true := beq_iff_eq.mpr c7
                have c7b1 : ((rd l0 x5_1) != (rd l1 x5_1)) = false := bne_eq_false_iff_eq.mpr c7
                clear c7
                have H' := Aside0.mk H
                clear H
                have p127 : 0 ≤ (x5_1 : Int) := of_decide_eq_true (by first | (with_reducible assumption) | assumption)
                have q127 : x5_1 < (l0.length : Int) := of_decide_eq_true (by first | (with_reducible assumption) | assumption)
                obtain ⟨ad127, e127, hx127_0⟩ := Kd.at_int HR0.out x5_1 p127 q127
                cases e127
                replace p127 := eq_true p127
                replace q127 := eq_true q127
                have p128 : 0 ≤ (x5_1 : Int) := of_decide_eq_true (by first | (with_reducible assumption) | assumption)
                have q128 : x5_1 < (l1.length : Int) := of_decide_eq_true (by first | (with_reducible assumption) | assumption)
                obtain ⟨ad128, e128, hx128_0⟩ := Kd.at_int HR1.out x5_1 p128 q128
                cases e128
                replace p128 := eq_true p128
                replace q128 := eq_true q128
                go_wp2
                repeat (go_quiet (fail); try go_wp2)
                go_roundg k1
                case measure => have := HK1.out; omega
                case rel => exact ⟨(wrap64 (x5_1 + 1)), (by first | rfl | (simp; done) | (simp [*]; done)), H', ⟨by have := HK1.out; omega⟩, by repeat (first | exact Drawn0.refl _ | apply Drawn0.step)⟩
              · rw [if_neg c7] at H
                have c7b0 : ((rd l0 x5_1) == (rd l1 x5_1)) = false := beq_eq_false_iff_ne.mpr c7
                have c7b1 : ((rd l0 x5_1) != (rd l1 x5_1)) = true := bne_iff_ne.mpr c7
                obtain rfl := Option.some.inj H
                have p127 : 0 ≤ (x5_1 : Int) := of_decide_eq_true (by first | (with_reducible assumption) | assumption)
                have q127 : x5_1 < (l0.length : Int) := of_decide_eq_true (by first | (with_reducible assumption) | assumption)
                obtain ⟨ad127, e127, hx127_0⟩ := Kd.at_int HR0.out x5_1 p127 q127
                cases e127
                replace p127 := eq_true p127
                replace q127 := eq_true q127
                have p128 : 0 ≤ (x5_1 : Int) := of_decide_eq_true (by first | (with_reducible assumption) | assumption)
                have q128 : x5_1 < (l1.length : Int) := of_decide_eq_true (by first | (with_reducible assumption) | assumption)
                obtain ⟨ad128, e128, hx128_0⟩ := Kd.at_int HR1.out x5_1 p128 q128
                cases e128
                replace p128 := eq_true p128
                replace q128 := eq_true q128
                go_wp2
                repeat (go_quiet (fail); try go_wp2)
                go_ret
                exact ⟨by first | rfl | (simp; done) | (simp [*]; done), by repeat (first | exact Drawn0.refl _ | apply Drawn0.step)⟩
            · rw [if_neg c6] at H
              exact absurd H (by simp)
          · rw [if_neg c5] at H
            exact absurd H (by simp)
        · rw [if_neg c4] at H
          have c4b0 : decide (x5_1 < (l0.length : Int)) = false := decide_eq_false c4
          clear c4
          obtain rfl := Option.some.inj H
          go_wp2
          repeat (go_quiet (fail); try go_wp2)
          go_ret
          exact ⟨by first | rfl | (simp; done) | (simp [*]; done), by repeat (first | exact Drawn0.refl _ | apply Drawn0.step)⟩
  · rw [if_neg c3] at H
    have c3b0 : ((l0.length : Int) == (l1.length : Int)) = false := beq_eq_false_iff_ne.mpr c3
    have c3b1 : ((l0.length : Int) != (l1.length : Int)) = true := bne_iff_ne.mpr c3
    have c3b2 : (l0.length == l1.length) = false := by first | simpa using c3 | (simp at c3 ⊢; omega)
    obtain rfl := Option.some.inj H
    go_enter Tryd.func11, Tryd.ntmps11
    go_wp2
    repeat (go_quiet (fail); try go_wp2)
    go_ret
    exact ⟨by first | rfl | (simp; done) | (simp [*]; done), by repeat (first | exact Drawn0.refl _ | apply Drawn0.step)⟩

/-! ### laws_markIntS: function 12 -/
def laws_markIntS.l0 : Nat → List Int → Int → Int → Option (Int × List Int)
  | 0, _, _, _ => none
  | k + 1, x0, x1, x5 => if x5 < (x0.length : Int) then (if 0 ≤ x5 then (laws_markIntS.l0 k (x0.set (x5 : Int).toNat x1) (wrap64 (x1 + 1)) (wrap64 (x5 + 1))) else (none)) else (some (x1, x0))
def laws_markIntS.f (k : Nat) (l0 : List Int) (a1 : Int) : Option (Int × List Int) := laws_markIntS.l0 k l0 a1 0
theorem laws_markIntS.mono_l : ∀ k, (∀ y0 y1 y2, LeO (laws_markIntS.l0 k y0 y1 y2) (laws_markIntS.l0 (k + 1) y0 y1 y2))
  | 0 => fun _ _ _ r h => by simp [laws_markIntS.l0] at h
  | k + 1 => by
    have ih0 := laws_markIntS.mono_l k
    · intro y0 y1 y2
      unfold laws_markIntS.l0
      repeat' first
      | (with_reducible exact ih0 _ _ _)
      | (with_reducible exact LeO.refl _)
      | (with_reducible exact LeO.none _)
      | (with_reducible refine LeO.ite ?_ ?_)
      | (with_reducible refine LeO.bind ?_ (fun _ => ?_))
      | exact ih0 _ _ _
      | exact LeO.none _
      | refine LeO.ite ?_ ?_
      | refine LeO.bind ?_ (fun _ => ?_)
theorem laws_markIntS.mono : ∀ a0 a1 k, LeO (laws_markIntS.f k a0 a1) (laws_markIntS.f (k + 1) a0 a1) := by
  intro a0 a1 k
  have ih0 := laws_markIntS.mono_l k
  unfold laws_markIntS.f
  repeat' first
      | (with_reducible exact ih0 _ _ _)
      | (with_reducible exact LeO.refl _)
      | (with_reducible exact LeO.none _)
      | (with_reducible refine LeO.ite ?_ ?_)
      | (with_reducible refine LeO.bind ?_ (fun _ => ?_))
      | exact ih0 _ _ _
      | exact LeO.none _
      | refine LeO.ite ?_ ?_
      | refine LeO.bind ?_ (fun _ => ?_)
set_option maxHeartbeats 8000000 in
set_option maxRecDepth 100000 in
theorem laws_markIntS.calls (k : Nat) (P0_ : Nat → Prop) (u9000_ : Value) (l0 : List Int) (a1 : Int) (r1 : Int) (r2 : List Int) (w0 w : World) (hB : Below w0.heap.size w0 w) (ho0 : Kd.R (Kd.int .i64) 3 w w0.heap.size P0_ u9000_ l0) (h : laws_markIntS.f k l0 a1 = some (r1, r2)) :
    Calls Tryd.prog 12 #[u9000_, .int .i64 a1] w fun e w' => e = .returned (.int .i64 r1) ∧ Kd.R (Kd.int .i64) 3 w' w0.heap.size (fun k_ => (P0_ k_ ∨ w.heap.size ≤ k_)) u9000_ r2 ∧ Below w0.heap.size w0 w' ∧ Kept w w' (fun k_ => P0_ k_) := by
  have HO0 := Aside0.mk (show Kd.R (Kd.int .i64) 3 w w0.heap.size (fun k_ => (P0_ k_ ∨ w.heap.size ≤ k_)) u9000_ l0 from Kd.R_mono ho0 (fun k_ hk => (.inl hk)))
  have HK := Aside0.mk (Kept.refl w (fun k_ => P0_ k_))
  have HW0 := Aside0.mk hB.size
  have HB := Aside0.mk hB
  clear hB
  have H : (laws_markIntS.l0 k l0 a1 0) = some (r1, r2) := h
  clear h
  have H' := Aside0.mk H
  clear H
  go_enter Tryd.func12, Tryd.ntmps12
  go_wp2
  go_loopg [1, 5] k (fun kq v1 v5 w' => ∃ (x0_1 : List Int) (x1_1 : Int) (x5_1 : Int), v1 = .int .i64 x1_1 ∧ v5 = .int .i64 x5_1 ∧ Aside0 (laws_markIntS.l0 kq x0_1 x1_1 x5_1 = some (r1, r2)) ∧ Aside0 (kq ≤ k) ∧ Aside0 (Kd.R (Kd.int .i64) 3 w' w0.heap.size (fun k_ => (P0_ k_ ∨ w.heap.size ≤ k_)) u9000_ x0_1) ∧ Aside0 (Kept w w' (fun k_ => P0_ k_)) ∧ Aside0 (Below w0.heap.size w0 w'))
  case atStart => exact ⟨(l0), (a1), (0), (by first | rfl | (simp; done) | (simp [*]; done)), (by first | rfl | (simp; done) | (simp [*]; done)), H', ⟨Nat.le_refl _⟩, ⟨by (with_reducible repeat (first | apply Kd.R_alloc | apply Kd.R_drewN | apply Kd.R_drew)); exact HO0.out⟩, ⟨by repeat (first | (with_reducible first | exact HK.out | apply Kept.alloc | apply Kept.drewN | apply Kept.drew) | exact HK.out)⟩, ⟨by repeat (first | (with_reducible first | exact HB.out | apply below_alloc | apply pw_below_drewN | apply below_drew1) | exact HB.out)⟩⟩
  case round =>
    clear H'
    try clear c1
    try clear p2
    obtain ⟨x0_1, x1_1, x5_1, rfl, rfl, HA, HK1, HO_0, HK, HB⟩ := hrel
    cases gk with
    | zero => exact absurd HA.out (by simp [laws_markIntS.l0])
    | succ k1 =>
      have H := HA.out
      clear HA
      simp only [laws_markIntS.l0] at H
      by_cases c3 : x5_1 < (x0_1.length : Int)
      · rw [if_pos c3] at H
        have c3b0 : decide (x5_1 < (x0_1.length : Int)) = true := decide_eq_true c3
        clear c3
        by_cases c4 : 0 ≤ x5_1
        · rw [if_pos c4] at H
          have c4b0 : decide (0 ≤ x5_1) = true := decide_eq_true c4
          clear c4
          obtain ⟨y129, hy129⟩ : ∃ y_ : List Int, y_ = (x0_1.set (x5_1 : Int).toNat x1_1) := ⟨_, rfl⟩
          replace H : (laws_markIntS.l0 k1 y129 (wrap64 (x1_1 + 1)) (wrap64 (x5_1 + 1))) = some (r1, r2) := by first | (rw [hy129]; with_reducible exact H) | (have H2_ := (Option.bind_some _ _).symm.trans H; rw [hy129]; with_reducible exact H2_) | (have H2_ := (Option.bind_some _ _).symm.trans H; with_reducible exact H2_) | with_reducible exact H | (rw [hy129]; exact H) | exact H
          have Ny129 := Aside0.mk hy129
          clear hy129
          have H' := Aside0.mk H
          clear H
          obtain ⟨Ao6, co6, eo6⟩ := Kd.R_slice HO_0.out
          subst eo6
          have p5 : 0 ≤ (x5_1 : Int) := of_decide_eq_true (by first | (with_reducible assumption) | assumption)
          have q5 : (x5_1 : Int) < ((x0_1.length : Int) : Int) := of_decide_eq_true (by first | (with_reducible assumption) | assumption)
          obtain ⟨go5, co5, eo5, gb5, gl5, cl5, HG5⟩ := Kd.R_form HO_0.out (by omega)
          (first | cases eo5 | (injection eo5 with ea_ en_ ec_; (first | subst ea_ | (injection ea_ with ea_; subst ea_)); subst ec_; clear en_))
          have GB5 := Aside0.mk gb5
          have GG5 := Aside0.mk HG5
          clear gb5 gl5 HG5
          have HMgo5 := Aside0.mk (show (P0_ go5 ∨ w.heap.size ≤ go5) from (HO_0.out.1 _ rfl))
          obtain ⟨hx5_0, hf5_0⟩ := Kd.R_celln 0 HO_0.out (x5_1 : Int) p5 q5
          replace p5 := eq_true p5
          replace q5 := eq_true q5
          have HP7 := Kd.R_putg HO_0.out (x5_1 : Int) x1_1
          go_wp2_with (first | ((with_reducible refine gate_store (t := 3) (p := 15) rfl ?_); refine store_event (t := 3) (p := 15) (v := ?vo_w8) (w1 := (wr.setCell ⟨go5, (x5_1 : Int).toNat, none⟩ (.int .i64 x1_1))) ?hg ?ho ?hn ?hr ?_; (case ho => rfl); (case hg => rfl); (case hn => rfl); (case hr => first | (go_simp; done) | (go_simp; rfl)); intro w8 hw; have hg : wr.grownBy w8 (some go5) := (by rw [hw]; exact HP7.2); have hp_ : Kd.R (Kd.int .i64) 3 w8 w0.heap.size (fun k_ => (P0_ k_ ∨ w.heap.size ≤ k_)) (.slice (some ⟨go5, 0, none⟩) x0_1.length co6) y129 := (by rw [hw, Ny129.out]; exact HP7.1); clear HP7; have n0_ := Aside0.mk (hp_); have n1_ := Aside0.mk ((by rw [hw]; exact below_set (HB.out) GB5.out : Below w0.heap.size w0 w8)); have n2_ := Aside0.mk (Kept.of_grown (S := (fun k_ => P0_ k_)) hg (by repeat (first | (with_reducible first | exact HK.out | apply Kept.alloc | apply Kept.drewN | apply Kept.drew) | exact HK.out)) (fun k_ e_ => (HO_0.out.1 k_ e_))); clear HO_0; clear HB; clear HK; have HO_0 := n0_; have HB := n1_; have HK := n2_; clear n0_ n1_ n2_; clear hg hw hp_))
          go_roundg k1
          case measure => have := HK1.out; omega
          case rel => exact ⟨(y129), (wrap64 (x1_1 + 1)), (wrap64 (x5_1 + 1)), (by first | rfl | (simp; done) | (simp [*]; done)), (by first | rfl | (simp; done) | (simp [*]; done)), H', ⟨by have := HK1.out; omega⟩, ⟨by (with_reducible repeat (first | apply Kd.R_alloc | apply Kd.R_drewN | apply Kd.R_drew)); exact HO_0.out⟩, ⟨by repeat (first | (with_reducible first | exact HK.out | apply Kept.alloc | apply Kept.drewN | apply Kept.drew) | exact HK.out)⟩, ⟨by repeat (first | (with_reducible first | exact HB.out | apply below_alloc | apply pw_below_drewN | apply below_drew1) | exact HB.out)⟩⟩
        · rw [if_neg c4] at H
          exact absurd H (by simp)
      · rw [if_neg c3] at H
        have c3b0 : decide (x5_1 < (x0_1.length : Int)) = false := decide_eq_false c3
        clear c3
        simp only [Option.some.injEq, Prod.mk.injEq] at H
        obtain ⟨rfl, rfl⟩ := H
        obtain ⟨Ao9, co9, eo9⟩ := Kd.R_slice HO_0.out
        subst eo9
        go_wp2
        go_ret
        exact ⟨by first | rfl | (simp [errW_none, errW_some] <;> rfl) | (simp [*, errW_none, errW_some] <;> rfl), by (with_reducible repeat (first | apply Kd.R_alloc | apply Kd.R_drewN | apply Kd.R_drew)); exact HO_0.out, by repeat (first | (with_reducible first | exact HB.out | apply below_alloc | apply pw_below_drewN | apply below_drew1) | exact HB.out), by repeat (first | (with_reducible first | exact HK.out | apply Kept.alloc | apply Kept.drewN | apply Kept.drew) | exact HK.out)⟩

/-! ### laws_heldIntS: function 13 -/
def laws_heldIntS.l0 : Nat → List Int → Int → Int → Option (Int)
  | 0, _, _, _ => none
  | k + 1, x0, x1, x5 => if x5 < (x0.length : Int) then (if 0 ≤ x5 then (if (rd x0 x5) = x1 then (laws_heldIntS.l0 k x0 (wrap64 (x1 + 1)) (wrap64 (x5 + 1))) else (some (-1))) else (none)) else (some x1)
def laws_heldIntS.f (k : Nat) (l0 : List Int) (a1 : Int) : Option (Int) := laws_heldIntS.l0 k l0 a1 0
theorem laws_heldIntS.mono_l : ∀ k, (∀ y0 y1 y2, LeO (laws_heldIntS.l0 k y0 y1 y2) (laws_heldIntS.l0 (k + 1) y0 y1 y2))
  | 0 => fun _ _ _ r h => by simp [laws_heldIntS.l0] at h
  | k + 1 => by
    have ih0 := laws_heldIntS.mono_l k
    · intro y0 y1 y2
      unfold laws_heldIntS.l0
      repeat' first
      | (with_reducible exact ih0 _ _ _)
      | (with_reducible exact LeO.refl _)
      | (with_reducible exact LeO.none _)
      | (with_reducible refine LeO.ite ?_ ?_)
      | (with_reducible refine LeO.bind ?_ (fun _ => ?_))
      | exact ih0 _ _ _
      | exact LeO.none _
      | refine LeO.ite ?_ ?_
      | refine LeO.bind ?_ (fun _ => ?_)
theorem laws_heldIntS.mono : ∀ a0 a1 k, LeO (laws_heldIntS.f k a0 a1) (laws_heldIntS.f (k + 1) a0 a1) := by
  intro a0 a1 k
  have ih0 := laws_heldIntS.mono_l k
  unfold laws_heldIntS.f
  repeat' first
      | (with_reducible exact ih0 _ _ _)
      | (with_reducible exact LeO.refl _)
      | (with_reducible exact LeO.none _)
      | (with_reducible refine LeO.ite ?_ ?_)
      | (with_reducible refine LeO.bind ?_ (fun _ => ?_))
      | exact ih0 _ _ _
      | exact LeO.none _
      | refine LeO.ite ?_ ?_
      | refine LeO.bind ?_ (fun _ => ?_)
set_option maxHeartbeats 8000000 in
set_option maxRecDepth 100000 in
theorem laws_heldIntS.calls (k : Nat) (A0 : Option Addr) (c0 : Nat) (l0 : List Int) (a1 : Int) (r : Int) (w : World) (hr0 : Kd.C (Kd.int .i64) w A0 l0.length l0) (hc0 : l0.length ≤ c0) (h : laws_heldIntS.f k l0 a1 = some r) :
    Calls Tryd.prog 13 #[.slice A0 l0.length c0, .int .i64 a1] w fun e w' => e = .returned (.int .i64 r) ∧ Drawn0 w w' := by
  have HR0 := Aside0.mk hr0
  have HC0 := Aside0.mk hc0
  clear hr0 hc0
  have H : (laws_heldIntS.l0 k l0 a1 0) = some r := h
  clear h
  have H' := Aside0.mk H
  clear H
  go_enter Tryd.func13, Tryd.ntmps13
  go_wp2
  go_loopg [1, 5] k (fun kq v1 v5 w' => ∃ (x1_1 : Int) (x5_1 : Int), v1 = .int .i64 x1_1 ∧ v5 = .int .i64 x5_1 ∧ Aside0 (laws_heldIntS.l0 kq l0 x1_1 x5_1 = some r) ∧ Aside0 (kq ≤ k) ∧ Drawn0 w w')
  case atStart => exact ⟨(a1), (0), (by first | rfl | (simp; done) | (simp [*]; done)), (by first | rfl | (simp; done) | (simp [*]; done)), H', ⟨Nat.le_refl _⟩, by repeat (first | exact Drawn0.refl _ | apply Drawn0.step)⟩
  case round =>
    clear H'
    try clear c1
    try clear p2
    obtain ⟨x1_1, x5_1, rfl, rfl, HA, HK1, ⟨m1, rfl⟩⟩ := hrel
    cases gk with
    | zero => exact absurd HA.out (by simp [laws_heldIntS.l0])
    | succ k1 =>
      have H := HA.out
      clear HA
      simp only [laws_heldIntS.l0] at H
      by_cases c3 : x5_1 < (l0.length : Int)
      · rw [if_pos c3] at H
        have c3b0 : decide (x5_1 < (l0.length : Int)) = true := decide_eq_true c3
        clear c3
        by_cases c4 : 0 ≤ x5_1
        · rw [if_pos c4] at H
          have c4b0 : decide (0 ≤ x5_1) = true := decide_eq_true c4
          clear c4
          by_cases c5 : (rd l0 x5_1) = x1_1
          · rw [if_pos c5] at H
            have c5b0 : ((rd l0 x5_1) == x1_1) = true := beq_iff_eq.mpr c5
            have c5b1 : ((rd l0 x5_1) != x1_1) = false := bne_eq_false_iff_eq.mpr c5
            clear c5
            have H' := Aside0.mk H
            clear H
            have p130 : 0 ≤ (x5_1 : Int) := of_decide_eq_true (by first | (with_reducible assumption) | assumption)
            have q130 : x5_1 < (l0.length : Int) := of_decide_eq_true (by first | (with_reducible assumption) | assumption)
            obtain ⟨ad130, e130, hx130_0⟩ := Kd.at_int HR0.out x5_1 p130 q130
            cases e130
            replace p130 := eq_true p130
            replace q130 := eq_true q130
            go_wp2
            go_roundg k1
            case measure => have := HK1.out; omega
            case rel => exact ⟨(wrap64 (x1_1 + 1)), (wrap64 (x5_1 + 1)), (by first | rfl | (simp; done) | (simp [*]; done)), (by first | rfl | (simp; done) | (simp [*]; done)), H', ⟨by have := HK1.out; omega⟩, by repeat (first | exact Drawn0.refl _ | apply Drawn0.step)⟩
          · rw [if_neg c5] at H
            have c5b0 : ((rd l0 x5_1) == x1_1) = false := beq_eq_false_iff_ne.mpr c5
            have c5b1 : ((rd l0 x5_1) != x1_1) = true := bne_iff_ne.mpr c5
            obtain rfl := Option.some.inj H
            have p130 : 0 ≤ (x5_1 : Int) := of_decide_eq_true (by first | (with_reducible assumption) | assumption)
            have q130 : x5_1 < (l0.length : Int) := of_decide_eq_true (by first | (with_reducible assumption) | assumption)
            obtain ⟨ad130, e130, hx130_0⟩ := Kd.at_int HR0.out x5_1 p130 q130
            cases e130
            replace p130 := eq_true p130
            replace q130 := eq_true q130
            go_wp2
            go_ret
            exact ⟨by first | rfl | (simp; done) | (simp [*]; done), by repeat (first | exact Drawn0.refl _ | apply Drawn0.step)⟩
        · rw [if_neg c4] at H
          exact absurd H (by simp)
      · rw [if_neg c3] at H
        have c3b0 : decide (x5_1 < (l0.length : Int)) = false := decide_eq_false c3
        clear c3
        obtain rfl := Option.some.inj H
        go_wp2
        go_ret
        exact ⟨by first | rfl | (simp; done) | (simp [*]; done), by repeat (first | exact Drawn0.refl _ | apply Drawn0.step)⟩

end Go.Proofs.YtpfgeflnhkpmaaaDoor.XH
