-- Written by this session's own program (wip/tools/xprint.py) out of the translation. Not trusted: Lean checks it.
import Derived.Test.YtpfgeflnhkpmaaaDoorXNx0
namespace Go.Proofs.YtpfgeflnhkpmaaaDoor.XN
open Go.RowKit Go.Proofs.YtpfgeflnhkpmaaaDoorW.PrintWords Go.Proofs.YtpfgeflnhkpmaaaDoorW.PrintLast Go.Proofs.YtpfgeflnhkpmaaaDoorW.PrintMore
attribute [local go_sem] max2_int min2_int max_two min_two max_three min_three max_four min_four   -- for this text's walks alone
set_option linter.unusedVariables false
set_option linter.unusedSimpArgs false

/-! ### impl_hexachords: function 20 -/
/-- The kind of a hexachord by its letter's place. -/
def kindStr : Nat → ByteArray
  | 0 => ⟨#[104, 97, 114, 100]⟩
  | 3 => ⟨#[110, 97, 116, 117, 114, 97, 108]⟩
  | 6 => ⟨#[115, 111, 102, 116]⟩
  | _ => ⟨#[]⟩
set_option maxHeartbeats 2000000 in
theorem impl_hexKindAt.calls (a0 : Int) (w : World) (h0 : 0 ≤ a0) (hG : Aside0 (GH w)) :
    Calls Tryd.prog 27 #[.int .i64 a0] w fun e w' => e = .returned (.string (kindStr (a0.toNat % 7))) ∧ Below w.heap.size w w' := by
  have ee : Int.tmod a0 7 = a0 % 7 := Int.tmod_eq_emod_of_nonneg h0
  have p0 : 0 ≤ Int.tmod a0 7 := by omega
  have p1 : Int.tmod a0 7 < 7 := by omega
  have e0 : (Int.tmod a0 7).toNat = a0.toNat % 7 := by omega
  have hia : ∀ W : World, (Instr.indexAt 62 (.pointer (some ⟨1, 0, none⟩)) (.int .i64 (Int.tmod a0 7))).run Tryd.prog W = .ok (.pointer (some ⟨1, a0.toNat % 7, none⟩)) W := fun W => by
    refine (run_indexAt_array (P := Tryd.prog) (w := W) 62 ⟨1, 0, none⟩ .i64 (Int.tmod a0 7) (by kernel_rfl)).trans ?_
    rw [if_pos ⟨p0, by rw [show Tryd.prog.arrayLen 62 = 7 by kernel_rfl]; exact p1⟩, show (sizeOf (Tryd.prog.elem 62)).run Tryd.prog W = .ok 1 W by kernel_rfl, e0]
    simp only [Result.andThen, Nat.mul_one, add_plain]
  have hc := hG.out (a0.toNat % 7) (Nat.mod_lt _ (by decide))
  have hr : a0.toNat % 7 = 0 ∨ a0.toNat % 7 = 1 ∨ a0.toNat % 7 = 2 ∨ a0.toNat % 7 = 3 ∨ a0.toNat % 7 = 4 ∨ a0.toNat % 7 = 5 ∨ a0.toNat % 7 = 6 := by omega
  clear p0 p1 e0 hG h0 ee
  generalize a0.toNat % 7 = q at hia hc hr ⊢
  rcases hr with rfl | rfl | rfl | rfl | rfl | rfl | rfl
  all_goals
    simp only [lns, List.getD_eq_getElem?_getD, List.getElem?_cons_zero, List.getElem?_cons_succ, Option.getD_some] at hc
    go_enter Tryd.func27, Tryd.ntmps27
    go_wp2
    go_ret
    exact ⟨rfl, Below.refl _ _⟩
/-- The cells of the hexachord that begins at a step. -/
def hexSoft (s i : Nat) : Bool := (s % 7 == 6) && ((s + i) % 7 == 2)
def hexCells (s : Nat) : List Value := [.int .i64 s, .int .i64 (s : Int), .bool (hexSoft s 0), .int .i64 ((s : Int) + 1), .bool (hexSoft s 1), .int .i64 ((s : Int) + 2), .bool (hexSoft s 2), .int .i64 ((s : Int) + 3), .bool (hexSoft s 3), .int .i64 ((s : Int) + 4), .bool (hexSoft s 4), .int .i64 ((s : Int) + 5), .bool (hexSoft s 5)]
/-- The kind of value that is one hexachord. -/
def kHex : Kd Nat where
  sz := 13
  E := []
  K := fun _ s cs => cs = hexCells s
  M := fun _ _ _ s cs => cs = hexCells s
  K_len := by rintro _ _ _ rfl; rfl
  K_one := by
    rintro _ s _ rfl u hu
    simp only [hexCells, List.mem_cons, List.not_mem_nil, or_false] at hu
    rcases hu with rfl | rfl | rfl | rfl | rfl | rfl | rfl | rfl | rfl | rfl | rfl | rfl | rfl <;> rfl
  K_below := fun _ h => h
  K_of_M := fun h => h
  M_mono := fun _ h => h
  M_bound := fun h => h
  M_move := fun _ h => h
  M_lower := fun _ h => h
section
variable {P : Program} {ops : Array Oper} {rest : List Oper} {o : Oper} {a : Act} {Q : Exit → Act → World → Prop}
/-- A store of a whole struct into a block that is told cell by cell. -/
theorem store_blk {W : World} (hgd : o.guard = none) (hN : o.dst = none) (t : TypeId) (p : Tmp) (x : Operand) (ho : o.op = .store t (.tmp p) x) {g off : Nat} {e : TypeId} {cs : List Value} (hp : a.eval (.tmp p) = .pointer (some ⟨g, off, none⟩)) (u : Value) (hx : a.eval x = u) (seg : List Value)
    (hh : W.heap[g]? = some (.cells cs.toArray e (0, 0))) (hu : u.cells.toList = seg) (ht : (P.info? t).map (·.size) = some seg.length) (hfit : off + seg.length ≤ cs.length) (h1 : ∀ q ∈ seg, q.oneCell' = true)
    (h : ∀ w1, w1.heap[g]? = some (.cells (cs.take off ++ seg ++ cs.drop (off + seg.length)).toArray e (0, 0)) → W.grownBy w1 (some g) → wpList P ops Q rest a w1) : wpList P ops Q (o :: rest) a W := by
  have hr := run_store_run (P := P) t u seg hh hu ht (by simpa using hfit) h1
  obtain ⟨cur', h3, h4, h5⟩ := setCells_row seg off W cs.toArray hh (by simpa using hfit)
  obtain ⟨s1, s2, s3, s4⟩ := setCells_same g seg off W
  refine store_event (w1 := W.setCells g off seg) hgd (t := t) (p := p) (v := x) ho hN ?_ (fun w' hw' => ?_)
  · unfold execOp
    simp [ho, hp, hx, hr]
  · subst hw'
    refine h _ ?_ ⟨s1, s2, s3, by rw [s4]; exact Nat.le_refl _, fun k _ hk => setCells_far _ _ k (fun he => hk (by rw [he]))⟩
    rw [h3]
    have e1 : cur' = (cs.take off ++ seg ++ cs.drop (off + seg.length)).toArray := by
      apply Array.ext'
      rw [h5]
    rw [e1]
end
/-- The steps at which hexachords begin. -/
def hexStarts : List Nat := [0, 3, 6, 7, 10, 13, 14]
def hexUpto (s : Nat) : List Nat := hexStarts.filter (fun x => x < s)
theorem upto_skip : ∀ s : Nat, s ≤ 15 → s % 7 ≠ 0 → s % 7 ≠ 3 → s % 7 ≠ 6 → hexUpto (s + 1) = hexUpto s := by
  intro s hs h0 h3 h6
  have : s = 1 ∨ s = 2 ∨ s = 4 ∨ s = 5 ∨ s = 8 ∨ s = 9 ∨ s = 11 ∨ s = 12 ∨ s = 15 := by omega
  rcases this with rfl | rfl | rfl | rfl | rfl | rfl | rfl | rfl | rfl <;> decide
theorem upto_add : ∀ s : Nat, s ≤ 15 → s % 7 = 0 ∨ s % 7 = 3 ∨ s % 7 = 6 → hexUpto (s + 1) = hexUpto s ++ [s] := by
  intro s hs h
  have : s = 0 ∨ s = 3 ∨ s = 6 ∨ s = 7 ∨ s = 10 ∨ s = 13 ∨ s = 14 := by omega
  rcases this with rfl | rfl | rfl | rfl | rfl | rfl | rfl <;> decide
theorem upto_len (s : Nat) : (hexUpto s).length ≤ 7 := by
  unfold hexUpto
  exact Nat.le_trans (List.length_filter_le _ _) (by decide)
theorem hexSoft_hard {s i : Nat} (h : s % 7 ≠ 6) : hexSoft s i = false := by
  simp [hexSoft, h]
theorem hexSoft_soft {s i : Nat} (h : s % 7 = 6) : hexSoft s i = (((s : Int) + (i : Int)) % 7 == 2) := by
  rw [Bool.eq_iff_iff]
  simp [hexSoft, h]
  omega
theorem hexCells_take (s i : Nat) (hi : i < 6) : (hexCells s).take (1 + (i + 1) * 2) = (hexCells s).take (1 + i * 2) ++ [Value.int .i64 ((s : Int) + (i : Int)), Value.bool (hexSoft s i)] := by
  have : i = 0 ∨ i = 1 ∨ i = 2 ∨ i = 3 ∨ i = 4 ∨ i = 5 := by omega
  rcases this with rfl | rfl | rfl | rfl | rfl | rfl <;> simp [hexCells]
theorem hex_step {s i : Nat} {cs : List Value} {b : Bool} (hi : i < 6) (hl : cs.length = 13) (ht : cs.take (1 + i * 2) = (hexCells s).take (1 + i * 2)) (hb : hexSoft s i = b) :
    (cs.take (1 + i * 2) ++ [Value.int .i64 ((s : Int) + (i : Int)), Value.bool b] ++ cs.drop (1 + i * 2 + ([Value.int .i64 ((s : Int) + (i : Int)), Value.bool b] : List Value).length)).take (1 + (i + 1) * 2) = (hexCells s).take (1 + (i + 1) * 2) := by
  rw [hexCells_take s i hi, ht, hb]
  exact List.take_left' (by simp [hexCells]; omega)
theorem hex_len {s i : Nat} {cs : List Value} {b : Bool} (hi : i < 6) (hl : cs.length = 13) :
    (cs.take (1 + i * 2) ++ [Value.int .i64 ((s : Int) + (i : Int)), Value.bool b] ++ cs.drop (1 + i * 2 + ([Value.int .i64 ((s : Int) + (i : Int)), Value.bool b] : List Value).length)).length = 13 := by
  simp [hl]
  omega
theorem info48 : (Tryd.prog.info? 48).map (fun i => (i.zero, i.size, i.bytes)) = some (some (.agg #[.int .i64 0, .int .i64 0, .bool false, .int .i64 0, .bool false, .int .i64 0, .bool false, .int .i64 0, .bool false, .int .i64 0, .bool false, .int .i64 0, .bool false]), 13, 104) := by kernel_rfl
set_option maxHeartbeats 4000000 in
set_option maxRecDepth 100000 in
theorem impl_hexachords.calls (w : World) (hG : Aside0 (GH w)) :
    Calls Tryd.prog 20 #[] w fun e w' => ∃ g v, e = .returned (.pointer (some ⟨g, 0, none⟩)) ∧ w'.heap[g]? = some (.cells #[v] 45 (0, 0)) ∧ Kd.R kHex 48 w' w.heap.size (fun _ => True) v hexStarts ∧ w.heap.size ≤ g ∧ Below w.heap.size w w' := by
  have HB : Aside0 (Below w.heap.size w w) := ⟨Below.refl _ _⟩
  go_enter Tryd.func20, Tryd.ntmps20
  go_wp2_with (first | ((with_reducible refine gate_dst (N := 8) rfl ?_); refine box_event ?hg (N := 8) ?hd (cs := #[.slice none 0 0]) (t := 45) ?hr ?_; (case hd => rfl); (case hg => rfl); (case hr => first | (go_simp; done) | (go_simp; rfl)); intro g0 hg w8 hbox hb; have n0_ := Aside0.mk (below_step HB.out hb); have n1_ := Aside0.mk hbox; have n2_ := Aside0.mk ((by rw [hg]; exact Nat.le_refl _) : w.heap.size ≤ g0); clear HB; have HB := n0_; have BT := n1_; have GT := n2_; clear n0_ n1_ n2_; clear hb hbox hg))
  go_loopg [2] 16 (fun kq v2 w' => ∃ (s : Nat) (v : Value), v2 = .int .i64 (s : Int) ∧ Aside0 (s + kq = 16) ∧ Aside0 (w'.heap[g0]? = some (.cells #[v] 45 (0, 0))) ∧ Aside0 (Kd.R kHex 48 w' w.heap.size (fun _ => True) v (hexUpto s)) ∧ Aside0 (Below w.heap.size w w'))
  case atStart => exact ⟨0, .slice none 0 0, rfl, ⟨rfl⟩, BT, ⟨Kd.R_nil _ _ _ _ _⟩, HB⟩
  case round =>
    clear HB BT
    obtain ⟨s, v, rfl, HK, BT, HO, HB⟩ := hrel
    cases gk with
    | zero =>
      have hs := HK.out
      obtain rfl : s = 16 := by omega
      go_wp2
      go_ret
      exact ⟨g0, rfl, v, BT.out, HO.out, GT.out, HB.out⟩
    | succ k =>
      have hs : s ≤ 15 := by have := HK.out; omega
      have hw := Aside0.mk (show wrap64 (wrap64 ((s : Int) + 6) - 1) = (s : Int) + 5 by unfold wrap64; omega)
      have hc : decide (wrap64 (wrap64 ((s : Int) + 6) - 1) ≤ 20) = true := decide_eq_true (by rw [hw.out]; omega)
      have hi13 : (Tryd.prog.info? 48).map (·.size) = some 13 := by kernel_rfl
      have hw1 : wrap64 ((s : Int) + 1) = ((s + 1 : Nat) : Int) := by unfold wrap64; omega
      by_cases hq : s % 7 = 0 ∨ s % 7 = 3 ∨ s % 7 = 6
      · have Hup := Aside0.mk (upto_add s hs hq)
        have hq1 : s % 7 = 0 ∨ s % 7 = 3 ∨ s % 7 = 6 := hq
        clear hq
        rcases hq1 with e7 | e7 | e7
        all_goals
          have E7 := Aside0.mk e7
          obtain ⟨K, hK⟩ : ∃ K, kindStr ((s : Int).toNat % 7) = K := ⟨_, rfl⟩
          have hK2 := hK
          rw [Int.toNat_natCast, e7] at hK2
          simp only [kindStr] at hK2
          subst hK2
          have Hk0 := Aside0.mk hK
          clear hK e7
          go_wp2_with (first | ((with_reducible refine gate_callee (f := 27) rfl ?_); refine goesL_ (some 16) rfl rfl Tryd.func27 (by kernel_rfl) rfl #[.int .i64 (s : Int)] rfl (by (try simp only [List.map_toArray, List.map_cons, List.map_nil]); first | done | rfl) ?_; (with_reducible refine (impl_hexKindAt.calls (s : Int) _ (Int.natCast_nonneg s) (GH.aside hG HB.out)).mono ?_); rintro e w4 ⟨he, hb⟩; rw [Hk0.out] at he; refine ⟨_, he, ?_⟩; have n0_ := Aside0.mk (below_step HB.out hb); have n1_ := Aside0.mk (blk_below BT.out hb); have n2_ := Aside0.mk (Kd.R_below HO.out hb); clear HB BT HO; have HB := n0_; have BT := n1_; have HO := n2_; clear n0_ n1_ n2_; (try clear hb); clear he) | ((with_reducible refine gate_dst (N := 4) rfl ?_); refine box_event ?hg (N := 4) ?hd (cs := #[.int .i64 0, .int .i64 0, .bool false, .int .i64 0, .bool false, .int .i64 0, .bool false, .int .i64 0, .bool false, .int .i64 0, .bool false, .int .i64 0, .bool false]) (t := 48) ?hr ?_; (case hd => rfl); (case hg => rfl); (case hr => first | (go_simp; done) | (go_simp; rfl)); intro gb hg w8 hbox hb; have n0_ := Aside0.mk (below_step HB.out hb); have n1_ := Aside0.mk hbox; have n2_ := Aside0.mk ((by rw [hg]; exact below_size HB.out) : w.heap.size ≤ gb); have n3_ := Aside0.mk (Kd.R_below (Kd.R_elderB HO.out gb (Nat.le_of_eq hg.symm)) hb); have n4_ := Aside0.mk (blk_below BT.out hb); clear HB HO BT; have HB := n0_; have BH := n1_; have GH := n2_; have HO := n3_; have BT := n4_; clear n0_ n1_ n2_ n3_ n4_; clear hb hbox hg) | ((with_reducible refine gate_store (t := 48) (p := 4) rfl ?_); refine store_blk (g := gb) (off := 0) (e := 48) (cs := [.int .i64 0, .int .i64 0, .bool false, .int .i64 0, .bool false, .int .i64 0, .bool false, .int .i64 0, .bool false, .int .i64 0, .bool false, .int .i64 0, .bool false]) rfl rfl 48 4 (.tmp 20) rfl rfl (.agg #[.int .i64 (s : Int), .int .i64 0, .bool false, .int .i64 0, .bool false, .int .i64 0, .bool false, .int .i64 0, .bool false, .int .i64 0, .bool false, .int .i64 0, .bool false]) rfl [.int .i64 (s : Int), .int .i64 0, .bool false, .int .i64 0, .bool false, .int .i64 0, .bool false, .int .i64 0, .bool false, .int .i64 0, .bool false, .int .i64 0, .bool false] BH.out rfl hi13 (Nat.le_refl 13) (by intro q hq; simp only [List.mem_cons, List.not_mem_nil, or_false] at hq; rcases hq with rfl | rfl | rfl | rfl | rfl | rfl | rfl | rfl | rfl | rfl | rfl | rfl | rfl <;> rfl) ?_; intro w9 hh hg; have n0_ := Aside0.mk (pw_below_grown HB.out _ (below_size HB.out) hg (fun k e => by cases e; exact GH.out)); have n1_ := Aside0.mk hh; have n2_ := Aside0.mk (Kd.R_grown HO.out hg (fun k hk e => hk.2 (by cases e; rfl))); have n3_ := Aside0.mk (blk_grown BT.out hg (fun e => blk_ne BT.out BH.out (by decide) (by cases e; rfl))); clear HB BH HO BT; have HB := n0_; have BH := n1_; have HO := n2_; have BT := n3_; clear n0_ n1_ n2_ n3_; clear hh hg))
          go_loopg [21] 6 (fun kq v21 w' => ∃ (i : Nat) (cs : List Value), v21 = .int .i64 (i : Int) ∧ Aside0 (i + kq = 6) ∧ Aside0 (cs.length = 13) ∧ Aside0 (cs.take (1 + i * 2) = (hexCells s).take (1 + i * 2)) ∧ Aside0 (w'.heap[gb]? = some (.cells cs.toArray 48 (0, 0))) ∧ Aside0 (w'.heap[g0]? = some (.cells #[v] 45 (0, 0))) ∧ Aside0 (Kd.R kHex 48 w' w.heap.size (fun k => True ∧ k ≠ gb) v (hexUpto s)) ∧ Aside0 (Below w.heap.size w w'))
          case atStart => exact ⟨0, [.int .i64 (s : Int), .int .i64 0, .bool false, .int .i64 0, .bool false, .int .i64 0, .bool false, .int .i64 0, .bool false, .int .i64 0, .bool false, .int .i64 0, .bool false], rfl, ⟨rfl⟩, ⟨rfl⟩, ⟨rfl⟩, BH, BT, HO, HB⟩
          case round =>
            clear HB BH BT HO
            obtain ⟨i, cs, rfl, HI, HL, HT, BH, BT, HO, HB⟩ := hrel
            cases gk with
            | zero =>
              obtain rfl : i = 6 := by have := HI.out; omega
              obtain rfl : cs = hexCells s := by
                have h1 := HT.out
                rw [List.take_of_length_le (by rw [HL.out]; omega), List.take_of_length_le (by show 13 ≤ _; omega)] at h1
                exact h1
              have hc_0 : (_ : World).cell? ⟨gb, 0, none⟩ = some (.int .i64 (s : Int)) := (blk_cell BH.out 0).trans rfl
              have hc_1 : (_ : World).cell? ⟨gb, 1, none⟩ = some (.int .i64 (s : Int)) := (blk_cell BH.out 1).trans rfl
              have hc_2 : (_ : World).cell? ⟨gb, 2, none⟩ = some (.bool (hexSoft s 0)) := (blk_cell BH.out 2).trans rfl
              have hc_3 : (_ : World).cell? ⟨gb, 3, none⟩ = some (.int .i64 ((s : Int) + 1)) := (blk_cell BH.out 3).trans rfl
              have hc_4 : (_ : World).cell? ⟨gb, 4, none⟩ = some (.bool (hexSoft s 1)) := (blk_cell BH.out 4).trans rfl
              have hc_5 : (_ : World).cell? ⟨gb, 5, none⟩ = some (.int .i64 ((s : Int) + 2)) := (blk_cell BH.out 5).trans rfl
              have hc_6 : (_ : World).cell? ⟨gb, 6, none⟩ = some (.bool (hexSoft s 2)) := (blk_cell BH.out 6).trans rfl
              have hc_7 : (_ : World).cell? ⟨gb, 7, none⟩ = some (.int .i64 ((s : Int) + 3)) := (blk_cell BH.out 7).trans rfl
              have hc_8 : (_ : World).cell? ⟨gb, 8, none⟩ = some (.bool (hexSoft s 3)) := (blk_cell BH.out 8).trans rfl
              have hc_9 : (_ : World).cell? ⟨gb, 9, none⟩ = some (.int .i64 ((s : Int) + 4)) := (blk_cell BH.out 9).trans rfl
              have hc_10 : (_ : World).cell? ⟨gb, 10, none⟩ = some (.bool (hexSoft s 4)) := (blk_cell BH.out 10).trans rfl
              have hc_11 : (_ : World).cell? ⟨gb, 11, none⟩ = some (.int .i64 ((s : Int) + 5)) := (blk_cell BH.out 11).trans rfl
              have hc_12 : (_ : World).cell? ⟨gb, 12, none⟩ = some (.bool (hexSoft s 5)) := (blk_cell BH.out 12).trans rfl
              have ht0 : wr.cell? ⟨g0, 0, none⟩ = some v := (blk_cell BT.out 0).trans rfl
              have ht0a : ∀ o : Obj, (wr.alloc o).cell? ⟨g0, 0, none⟩ = some v := fun o => (blk_cell (blk_alloc BT.out o) 0).trans rfl
              go_wp2
              go_region_law (refine Kd.R_append_step (W := wr.drew) kHex (w0 := w) w.heap.size (by rfl) (.tmp 44) (.tmp 46) 43 48 (.agg #[.int .i64 0, .int .i64 0, .bool false, .int .i64 0, .bool false, .int .i64 0, .bool false, .int .i64 0, .bool false, .int .i64 0, .bool false, .int .i64 0, .bool false]) 104 rfl Tryd.underlying43 info48 rfl (by decide) (by omega) v (hexUpto s) s [.int .i64 (s : Int), .int .i64 (s : Int), .bool (hexSoft s 0), .int .i64 ((s : Int) + 1), .bool (hexSoft s 1), .int .i64 ((s : Int) + 2), .bool (hexSoft s 2), .int .i64 ((s : Int) + 3), .bool (hexSoft s 3), .int .i64 ((s : Int) + 4), .bool (hexSoft s 4), .int .i64 ((s : Int) + 5), .bool (hexSoft s 5)] (fun k => True ∧ k ≠ gb) (fun _ => False) rfl rfl ?aP (fun _ hk => hk.elim) ?aF ?aO ?aB ?aS ?aL ?_; (case aP => exact rfl); (case aF => exact fun k hk => ⟨trivial, fun e => by have h0 := blk_lt BH.out; rw [← e] at h0; exact absurd h0 (Nat.not_lt.mpr hk)⟩); (case aO => exact Kd.R_drew HO.out); (case aB => exact below_drew1 HB.out); (case aS => exact below_size (below_drew1 HB.out)); (case aL => have := upto_len s; omega); intro v1 w14 ho hb hg hat; obtain ⟨A_, c_, eo_⟩ := Kd.R_slice ho; rw [show (hexUpto s ++ [s]).length = (hexUpto s).length + 1 by simp] at eo_; subst eo_; have HO2 := Aside0.mk ho; have HB2 := Aside0.mk hb; have BT2 := Aside0.mk (blk_grown (blk_drew BT.out) hg (Kd.R_ne HO.out BT.out (by decide))); have ht1 : w14.cell? ⟨g0, 0, none⟩ = some v := (blk_cell BT2.out 0).trans rfl; have hf1 := blk_frozen BT2.out 0; clear ho hb hg hat)
              all_goals
                have BT3 := Aside0.mk (blk_put (cs' := #[.slice A_ ((hexUpto s).length + 1) c_]) BT2.out 0 (.slice A_ ((hexUpto s).length + 1) c_) rfl)
                have HO3 := Aside0.mk (Kd.R_mono (Kd.R_set HO2.out BT2.out (by decide) 0 (.slice A_ ((hexUpto s).length + 1) c_)) (fun _ _ => trivial))
                have HB3 := Aside0.mk (below_set (j := 0) (v := .slice A_ ((hexUpto s).length + 1) c_) HB2.out GT.out)
                go_wp2
                go_roundg k
                case measure => omega
                case rel => exact ⟨s + 1, _, by first | rfl | exact congrArg (Value.int .i64) hw1, ⟨by have := HK.out; omega⟩, BT3, ⟨by rw [Hup.out]; exact HO3.out⟩, HB3⟩
            | succ j =>
              have hi : i < 6 := by have := HI.out; omega
              have hi2 : decide ((i : Int) < 6) = true := decide_eq_true (by omega)
              have hia : ∀ W : World, (Instr.indexAt 46 (.pointer (some ⟨gb, 1, none⟩)) (.int .i64 (i : Int))).run Tryd.prog W = .ok (.pointer (some ⟨gb, 1 + i * 2, none⟩)) W := fun W => by
                refine (run_indexAt_array (P := Tryd.prog) (w := W) 46 ⟨gb, 1, none⟩ .i64 (i : Int) (by kernel_rfl)).trans ?_
                rw [if_pos ⟨by omega, by rw [show Tryd.prog.arrayLen 46 = 6 by kernel_rfl]; omega⟩, show (sizeOf (Tryd.prog.elem 46)).run Tryd.prog W = .ok 2 W by kernel_rfl, Int.toNat_natCast]
                simp only [Result.andThen, add_at]
              have hi25 : (Tryd.prog.info? 25).map (·.size) = some 2 := by kernel_rfl
              go_wp2_with (first | ((with_reducible refine gate_store (t := 25) (p := 38) rfl ?_); refine store_blk (g := gb) (off := 1 + i * 2) (e := 48) (cs := cs) rfl rfl 25 38 (.tmp 36) rfl rfl (.agg #[.int .i64 ((s : Int) + (i : Int)), .bool (false)]) rfl [.int .i64 ((s : Int) + (i : Int)), .bool (false)] BH.out rfl hi25 ?hf ?ho ?_; (case hf => rw [HL.out]; show 1 + i * 2 + 2 ≤ 13; omega); (case ho => intro q hq; simp only [List.mem_cons, List.not_mem_nil, or_false] at hq; rcases hq with rfl | rfl <;> rfl); intro w9 hh hg; have hso : hexSoft s i = (false) := (hexSoft_hard (by have := E7.out; omega)); have n0_ := Aside0.mk (pw_below_grown HB.out _ (below_size HB.out) hg (fun k e => by cases e; exact GH.out)); have n1_ := Aside0.mk hh; have n2_ := Aside0.mk (Kd.R_grown HO.out hg (fun k hk e => hk.2 (by cases e; rfl))); have n3_ := Aside0.mk (blk_grown BT.out hg (fun e => blk_ne BT.out BH.out (by decide) (by cases e; rfl))); have n4_ := Aside0.mk (hex_step hi HL.out HT.out hso); clear HB BH HO BT HT; have HB := n0_; have BH := n1_; have HO := n2_; have BT := n3_; have HT := n4_; clear n0_ n1_ n2_ n3_ n4_; clear hh hg hso) | ((with_reducible refine gate_store (t := 25) (p := 38) rfl ?_); refine store_blk (g := gb) (off := 1 + i * 2) (e := 48) (cs := cs) rfl rfl 25 38 (.tmp 36) rfl rfl (.agg #[.int .i64 ((s : Int) + (i : Int)), .bool (((s : Int) + (i : Int)) % 7 == 2)]) rfl [.int .i64 ((s : Int) + (i : Int)), .bool (((s : Int) + (i : Int)) % 7 == 2)] BH.out rfl hi25 ?hf ?ho ?_; (case hf => rw [HL.out]; show 1 + i * 2 + 2 ≤ 13; omega); (case ho => intro q hq; simp only [List.mem_cons, List.not_mem_nil, or_false] at hq; rcases hq with rfl | rfl <;> rfl); intro w9 hh hg; have hso : hexSoft s i = (((s : Int) + (i : Int)) % 7 == 2) := (hexSoft_soft E7.out); have n0_ := Aside0.mk (pw_below_grown HB.out _ (below_size HB.out) hg (fun k e => by cases e; exact GH.out)); have n1_ := Aside0.mk hh; have n2_ := Aside0.mk (Kd.R_grown HO.out hg (fun k hk e => hk.2 (by cases e; rfl))); have n3_ := Aside0.mk (blk_grown BT.out hg (fun e => blk_ne BT.out BH.out (by decide) (by cases e; rfl))); have n4_ := Aside0.mk (hex_step hi HL.out HT.out hso); clear HB BH HO BT HT; have HB := n0_; have BH := n1_; have HO := n2_; have BT := n3_; have HT := n4_; clear n0_ n1_ n2_ n3_ n4_; clear hh hg hso))
              go_roundg j
              case measure => omega
              case rel => exact ⟨i + 1, _, by first | rfl | (congr 1), ⟨by have := HI.out; omega⟩, ⟨hex_len hi HL.out⟩, HT, BH, BT, HO, HB⟩
      · have hk0 : kindStr ((s : Int).toNat % 7) = ⟨#[]⟩ := by
          rw [Int.toNat_natCast]
          have : s % 7 = 1 ∨ s % 7 = 2 ∨ s % 7 = 4 ∨ s % 7 = 5 := by omega
          rcases this with e | e | e | e <;> rw [e] <;> rfl
        have Hk0 := Aside0.mk hk0
        have Hup := Aside0.mk (upto_skip s hs (by omega) (by omega) (by omega))
        clear hk0
        go_wp2_with (first | ((with_reducible refine gate_callee (f := 27) rfl ?_); refine goesL_ (some 16) rfl rfl Tryd.func27 (by kernel_rfl) rfl #[.int .i64 (s : Int)] rfl (by (try simp only [List.map_toArray, List.map_cons, List.map_nil]); first | done | rfl) ?_; (with_reducible refine (impl_hexKindAt.calls (s : Int) _ (Int.natCast_nonneg s) (GH.aside hG HB.out)).mono ?_); rintro e w4 ⟨he, hb⟩; rw [Hk0.out] at he; refine ⟨_, he, ?_⟩; have n0_ := Aside0.mk (below_step HB.out hb); have n1_ := Aside0.mk (blk_below BT.out hb); have n2_ := Aside0.mk (Kd.R_below HO.out hb); clear HB BT HO; have HB := n0_; have BT := n1_; have HO := n2_; clear n0_ n1_ n2_; (try clear hb); clear he))
        go_roundg k
        case measure => omega
        case rel => exact ⟨s + 1, v, by first | rfl | exact congrArg (Value.int .i64) hw1, ⟨by have := HK.out; omega⟩, BT, ⟨by rw [Hup.out]; exact HO.out⟩, HB⟩

/-! ### impl_hexachord_syllable: function 21 -/
def sylFrom (s : Nat) (t0 : Int) (t1 : Bool) : Nat → Nat → Int
  | 0, _ => -1
  | d + 1, i => if (((s : Int) + (i : Int) == t0) && (hexSoft s i == t1)) = true then (i : Int) else sylFrom s t0 t1 d (i + 1)
/-- The syllable of a tone in the hexachord that begins at a step, or -1. -/
def syl (s : Nat) (t0 : Int) (t1 : Bool) : Int := sylFrom s t0 t1 6 0
set_option maxHeartbeats 4000000 in
set_option maxRecDepth 100000 in
theorem impl_hexachord_syllable.calls (s b o : Nat) (t0 : Int) (t1 : Bool) (w : World) (hc : ∀ j u, (hexCells s)[j]? = some u → w.cell? ⟨b, o + j, none⟩ = some u) :
    Calls Tryd.prog 21 #[.pointer (some ⟨b, o, none⟩), .agg #[.int .i64 t0, .bool t1]] w fun e w' => e = .returned (.int .i64 (syl s t0 t1)) ∧ Below w.heap.size w w' := by
  have HB : Aside0 (Below w.heap.size w w) := ⟨Below.refl _ _⟩
  have hc1 : w.cell? ⟨b, o + 1, none⟩ = some (.int .i64 (s : Int)) := hc 1 _ rfl
  have hc2 : w.cell? ⟨b, o + 2, none⟩ = some (.bool (hexSoft s 0)) := hc 2 _ rfl
  have hc3 : w.cell? ⟨b, o + 3, none⟩ = some (.int .i64 ((s : Int) + 1)) := hc 3 _ rfl
  have hc4 : w.cell? ⟨b, o + 4, none⟩ = some (.bool (hexSoft s 1)) := hc 4 _ rfl
  have hc5 : w.cell? ⟨b, o + 5, none⟩ = some (.int .i64 ((s : Int) + 2)) := hc 5 _ rfl
  have hc6 : w.cell? ⟨b, o + 6, none⟩ = some (.bool (hexSoft s 2)) := hc 6 _ rfl
  have hc7 : w.cell? ⟨b, o + 7, none⟩ = some (.int .i64 ((s : Int) + 3)) := hc 7 _ rfl
  have hc8 : w.cell? ⟨b, o + 8, none⟩ = some (.bool (hexSoft s 3)) := hc 8 _ rfl
  have hc9 : w.cell? ⟨b, o + 9, none⟩ = some (.int .i64 ((s : Int) + 4)) := hc 9 _ rfl
  have hc10 : w.cell? ⟨b, o + 10, none⟩ = some (.bool (hexSoft s 4)) := hc 10 _ rfl
  have hc11 : w.cell? ⟨b, o + 11, none⟩ = some (.int .i64 ((s : Int) + 5)) := hc 11 _ rfl
  have hc12 : w.cell? ⟨b, o + 12, none⟩ = some (.bool (hexSoft s 5)) := hc 12 _ rfl
  clear hc
  go_enter Tryd.func21, Tryd.ntmps21
  go_wp2_with (first | ((with_reducible refine gate_dst (N := 3) rfl ?_); refine box_event ?hg (N := 3) ?hd (cs := #[.int .i64 t0, .bool t1]) (t := 25) ?hr ?_; (case hd => rfl); (case hg => rfl); (case hr => first | (go_simp; done) | (go_simp; rfl)); intro gt hg w8 hbox hb; have n0_ := Aside0.mk (below_step HB.out hb); have n1_ := Aside0.mk hbox; clear HB; have HB := n0_; have BT := n1_; clear n0_ n1_; clear hb hbox hg; replace hc1 := pw_cell_below HB.out hc1; replace hc2 := pw_cell_below HB.out hc2; replace hc3 := pw_cell_below HB.out hc3; replace hc4 := pw_cell_below HB.out hc4; replace hc5 := pw_cell_below HB.out hc5; replace hc6 := pw_cell_below HB.out hc6; replace hc7 := pw_cell_below HB.out hc7; replace hc8 := pw_cell_below HB.out hc8; replace hc9 := pw_cell_below HB.out hc9; replace hc10 := pw_cell_below HB.out hc10; replace hc11 := pw_cell_below HB.out hc11; replace hc12 := pw_cell_below HB.out hc12))
  clear hc1 hc2 hc3 hc4 hc5 hc6 hc7 hc8 hc9 hc10 hc11 hc12
  go_loopg [11] 6 (fun kq v11 w' => ∃ i : Nat, v11 = .int .i64 (i : Int) ∧ Aside0 (i + kq = 6) ∧ Aside0 (sylFrom s t0 t1 kq i = syl s t0 t1) ∧ Aside0 (w'.heap[gt]? = some (.cells #[.int .i64 t0, .bool t1] 25 (0, 0))) ∧ Aside0 (Below w.heap.size w w'))
  case atStart => exact ⟨0, rfl, ⟨rfl⟩, ⟨rfl⟩, BT, HB⟩
  case round =>
    clear HB BT
    obtain ⟨i, hv, HI, HS, BT, HB⟩ := hrel
    have hi : i = 0 ∨ i = 1 ∨ i = 2 ∨ i = 3 ∨ i = 4 ∨ i = 5 ∨ i = 6 := by have := HI.out; omega
    have ht0 : wr.cell? ⟨gt, 0, none⟩ = some (.int .i64 t0) := (blk_cell BT.out 0).trans rfl
    have ht1 : wr.cell? ⟨gt, 1, none⟩ = some (.bool t1) := (blk_cell BT.out 1).trans rfl
    have hi25 : (Tryd.prog.info? 25).map (·.size) = some 2 := by kernel_rfl
    rcases hi with rfl | rfl | rfl | rfl | rfl | rfl | rfl
    · obtain rfl : u11 = .int .i64 0 := hv
      have hix : ∀ W : World, (Instr.index 46 (.agg #[.int .i64 (s : Int), .bool (hexSoft s 0), .int .i64 ((s : Int) + 1), .bool (hexSoft s 1), .int .i64 ((s : Int) + 2), .bool (hexSoft s 2), .int .i64 ((s : Int) + 3), .bool (hexSoft s 3), .int .i64 ((s : Int) + 4), .bool (hexSoft s 4), .int .i64 ((s : Int) + 5), .bool (hexSoft s 5)]) (.int .i64 0)).run Tryd.prog W = .ok (.agg #[.int .i64 (s : Int), .bool (hexSoft s 0)]) W := fun W => by kernel_rfl
      obtain rfl : gk = 5 + 1 := by have := HI.out; omega
      by_cases c1 : (s : Int) = t0
      · by_cases c2 : hexSoft s 0 = t1
        · skip
          have hS := Aside0.mk ((show (0 : Int) = syl s t0 t1 by rw [← HS.out]; exact (if_pos (by simp [c1, c2])).symm))
          clear HS
          replace c1 := eq_true c1
          replace c2 := eq_true c2
          go_wp2_with (first | ((with_reducible refine gate_dst (N := 6) rfl ?_); refine box_event ?hg (N := 6) ?hd (cs := #[.int .i64 0, .bool false]) (t := 25) ?hr ?_; (case hd => rfl); (case hg => rfl); (case hr => first | (go_simp; done) | (go_simp; rfl)); intro go hg w8 hbox hb; have n0_ := Aside0.mk (below_step HB.out hb); have n1_ := Aside0.mk hbox; have n2_ := Aside0.mk (blk_below BT.out hb); have n3_ := Aside0.mk ((by rw [hg]; exact below_size HB.out) : w.heap.size ≤ go); have n4_ := Aside0.mk ((by rw [hg]; exact Nat.ne_of_lt (blk_lt BT.out)) : gt ≠ go); clear HB BT ht0 ht1; have HB := n0_; have BO := n1_; have BT := n2_; have GO := n3_; have GN := n4_; clear n0_ n1_ n2_ n3_ n4_; clear hb hbox hg) | ((with_reducible refine gate_store (t := 25) (p := 6) rfl ?_); refine store_blk (g := go) (off := 0) (e := 25) (cs := [.int .i64 0, .bool false]) rfl rfl 25 6 (.tmp 14) rfl rfl (.agg #[.int .i64 (s : Int), .bool (hexSoft s 0)]) rfl [.int .i64 (s : Int), .bool (hexSoft s 0)] BO.out rfl hi25 (Nat.le_refl 2) (by intro q hq; simp only [List.mem_cons, List.not_mem_nil, or_false] at hq; rcases hq with rfl | rfl <;> rfl) ?_; intro w9 hh hg; have n0_ := Aside0.mk (pw_below_grown HB.out _ (below_size HB.out) hg (fun k e => by cases e; exact GO.out)); have n3_ := Aside0.mk (blk_grown BT.out hg (fun e => GN.out (by cases e; rfl))); have ho0 : w9.cell? ⟨go, 0, none⟩ = some (.int .i64 (s : Int)) := (blk_cell hh 0).trans rfl; have ho1 : w9.cell? ⟨go, 1, none⟩ = some (.bool (hexSoft s 0)) := (blk_cell hh 1).trans rfl; clear HB BO BT; have HB := n0_; have BT := n3_; clear n0_ n3_; clear hh hg; have ht0 : w9.cell? ⟨gt, 0, none⟩ = some (.int .i64 t0) := (blk_cell BT.out 0).trans rfl; have ht1 : w9.cell? ⟨gt, 1, none⟩ = some (.bool t1) := (blk_cell BT.out 1).trans rfl))
          go_ret
          exact ⟨by rw [← hS.out]; rfl, HB.out⟩
        · skip
          have hS := Aside0.mk ((show sylFrom s t0 t1 5 1 = syl s t0 t1 by rw [← HS.out]; exact (if_neg (by simp [c1, c2])).symm))
          clear HS
          replace c1 := eq_true c1
          replace c2 := eq_false c2
          go_wp2_with (first | ((with_reducible refine gate_dst (N := 6) rfl ?_); refine box_event ?hg (N := 6) ?hd (cs := #[.int .i64 0, .bool false]) (t := 25) ?hr ?_; (case hd => rfl); (case hg => rfl); (case hr => first | (go_simp; done) | (go_simp; rfl)); intro go hg w8 hbox hb; have n0_ := Aside0.mk (below_step HB.out hb); have n1_ := Aside0.mk hbox; have n2_ := Aside0.mk (blk_below BT.out hb); have n3_ := Aside0.mk ((by rw [hg]; exact below_size HB.out) : w.heap.size ≤ go); have n4_ := Aside0.mk ((by rw [hg]; exact Nat.ne_of_lt (blk_lt BT.out)) : gt ≠ go); clear HB BT ht0 ht1; have HB := n0_; have BO := n1_; have BT := n2_; have GO := n3_; have GN := n4_; clear n0_ n1_ n2_ n3_ n4_; clear hb hbox hg) | ((with_reducible refine gate_store (t := 25) (p := 6) rfl ?_); refine store_blk (g := go) (off := 0) (e := 25) (cs := [.int .i64 0, .bool false]) rfl rfl 25 6 (.tmp 14) rfl rfl (.agg #[.int .i64 (s : Int), .bool (hexSoft s 0)]) rfl [.int .i64 (s : Int), .bool (hexSoft s 0)] BO.out rfl hi25 (Nat.le_refl 2) (by intro q hq; simp only [List.mem_cons, List.not_mem_nil, or_false] at hq; rcases hq with rfl | rfl <;> rfl) ?_; intro w9 hh hg; have n0_ := Aside0.mk (pw_below_grown HB.out _ (below_size HB.out) hg (fun k e => by cases e; exact GO.out)); have n3_ := Aside0.mk (blk_grown BT.out hg (fun e => GN.out (by cases e; rfl))); have ho0 : w9.cell? ⟨go, 0, none⟩ = some (.int .i64 (s : Int)) := (blk_cell hh 0).trans rfl; have ho1 : w9.cell? ⟨go, 1, none⟩ = some (.bool (hexSoft s 0)) := (blk_cell hh 1).trans rfl; clear HB BO BT; have HB := n0_; have BT := n3_; clear n0_ n3_; clear hh hg; have ht0 : w9.cell? ⟨gt, 0, none⟩ = some (.int .i64 t0) := (blk_cell BT.out 0).trans rfl; have ht1 : w9.cell? ⟨gt, 1, none⟩ = some (.bool t1) := (blk_cell BT.out 1).trans rfl))
          go_roundg 5
          case measure => omega
          case rel => exact ⟨1, rfl, ⟨rfl⟩, hS, BT, HB⟩
      · skip
        have hS := Aside0.mk ((show sylFrom s t0 t1 5 1 = syl s t0 t1 by rw [← HS.out]; exact (if_neg (by simp [c1])).symm))
        clear HS
        replace c1 := eq_false c1
        go_wp2_with (first | ((with_reducible refine gate_dst (N := 6) rfl ?_); refine box_event ?hg (N := 6) ?hd (cs := #[.int .i64 0, .bool false]) (t := 25) ?hr ?_; (case hd => rfl); (case hg => rfl); (case hr => first | (go_simp; done) | (go_simp; rfl)); intro go hg w8 hbox hb; have n0_ := Aside0.mk (below_step HB.out hb); have n1_ := Aside0.mk hbox; have n2_ := Aside0.mk (blk_below BT.out hb); have n3_ := Aside0.mk ((by rw [hg]; exact below_size HB.out) : w.heap.size ≤ go); have n4_ := Aside0.mk ((by rw [hg]; exact Nat.ne_of_lt (blk_lt BT.out)) : gt ≠ go); clear HB BT ht0 ht1; have HB := n0_; have BO := n1_; have BT := n2_; have GO := n3_; have GN := n4_; clear n0_ n1_ n2_ n3_ n4_; clear hb hbox hg) | ((with_reducible refine gate_store (t := 25) (p := 6) rfl ?_); refine store_blk (g := go) (off := 0) (e := 25) (cs := [.int .i64 0, .bool false]) rfl rfl 25 6 (.tmp 14) rfl rfl (.agg #[.int .i64 (s : Int), .bool (hexSoft s 0)]) rfl [.int .i64 (s : Int), .bool (hexSoft s 0)] BO.out rfl hi25 (Nat.le_refl 2) (by intro q hq; simp only [List.mem_cons, List.not_mem_nil, or_false] at hq; rcases hq with rfl | rfl <;> rfl) ?_; intro w9 hh hg; have n0_ := Aside0.mk (pw_below_grown HB.out _ (below_size HB.out) hg (fun k e => by cases e; exact GO.out)); have n3_ := Aside0.mk (blk_grown BT.out hg (fun e => GN.out (by cases e; rfl))); have ho0 : w9.cell? ⟨go, 0, none⟩ = some (.int .i64 (s : Int)) := (blk_cell hh 0).trans rfl; have ho1 : w9.cell? ⟨go, 1, none⟩ = some (.bool (hexSoft s 0)) := (blk_cell hh 1).trans rfl; clear HB BO BT; have HB := n0_; have BT := n3_; clear n0_ n3_; clear hh hg; have ht0 : w9.cell? ⟨gt, 0, none⟩ = some (.int .i64 t0) := (blk_cell BT.out 0).trans rfl; have ht1 : w9.cell? ⟨gt, 1, none⟩ = some (.bool t1) := (blk_cell BT.out 1).trans rfl))
        go_roundg 5
        case measure => omega
        case rel => exact ⟨1, rfl, ⟨rfl⟩, hS, BT, HB⟩
    · obtain rfl : u11 = .int .i64 1 := hv
      have hix : ∀ W : World, (Instr.index 46 (.agg #[.int .i64 (s : Int), .bool (hexSoft s 0), .int .i64 ((s : Int) + 1), .bool (hexSoft s 1), .int .i64 ((s : Int) + 2), .bool (hexSoft s 2), .int .i64 ((s : Int) + 3), .bool (hexSoft s 3), .int .i64 ((s : Int) + 4), .bool (hexSoft s 4), .int .i64 ((s : Int) + 5), .bool (hexSoft s 5)]) (.int .i64 1)).run Tryd.prog W = .ok (.agg #[.int .i64 ((s : Int) + 1), .bool (hexSoft s 1)]) W := fun W => by kernel_rfl
      obtain rfl : gk = 4 + 1 := by have := HI.out; omega
      by_cases c1 : ((s : Int) + 1) = t0
      · by_cases c2 : hexSoft s 1 = t1
        · skip
          have hS := Aside0.mk ((show (1 : Int) = syl s t0 t1 by rw [← HS.out]; exact (if_pos (by simp [c1, c2])).symm))
          clear HS
          replace c1 := eq_true c1
          replace c2 := eq_true c2
          go_wp2_with (first | ((with_reducible refine gate_dst (N := 6) rfl ?_); refine box_event ?hg (N := 6) ?hd (cs := #[.int .i64 0, .bool false]) (t := 25) ?hr ?_; (case hd => rfl); (case hg => rfl); (case hr => first | (go_simp; done) | (go_simp; rfl)); intro go hg w8 hbox hb; have n0_ := Aside0.mk (below_step HB.out hb); have n1_ := Aside0.mk hbox; have n2_ := Aside0.mk (blk_below BT.out hb); have n3_ := Aside0.mk ((by rw [hg]; exact below_size HB.out) : w.heap.size ≤ go); have n4_ := Aside0.mk ((by rw [hg]; exact Nat.ne_of_lt (blk_lt BT.out)) : gt ≠ go); clear HB BT ht0 ht1; have HB := n0_; have BO := n1_; have BT := n2_; have GO := n3_; have GN := n4_; clear n0_ n1_ n2_ n3_ n4_; clear hb hbox hg) | ((with_reducible refine gate_store (t := 25) (p := 6) rfl ?_); refine store_blk (g := go) (off := 0) (e := 25) (cs := [.int .i64 0, .bool false]) rfl rfl 25 6 (.tmp 14) rfl rfl (.agg #[.int .i64 ((s : Int) + 1), .bool (hexSoft s 1)]) rfl [.int .i64 ((s : Int) + 1), .bool (hexSoft s 1)] BO.out rfl hi25 (Nat.le_refl 2) (by intro q hq; simp only [List.mem_cons, List.not_mem_nil, or_false] at hq; rcases hq with rfl | rfl <;> rfl) ?_; intro w9 hh hg; have n0_ := Aside0.mk (pw_below_grown HB.out _ (below_size HB.out) hg (fun k e => by cases e; exact GO.out)); have n3_ := Aside0.mk (blk_grown BT.out hg (fun e => GN.out (by cases e; rfl))); have ho0 : w9.cell? ⟨go, 0, none⟩ = some (.int .i64 ((s : Int) + 1)) := (blk_cell hh 0).trans rfl; have ho1 : w9.cell? ⟨go, 1, none⟩ = some (.bool (hexSoft s 1)) := (blk_cell hh 1).trans rfl; clear HB BO BT; have HB := n0_; have BT := n3_; clear n0_ n3_; clear hh hg; have ht0 : w9.cell? ⟨gt, 0, none⟩ = some (.int .i64 t0) := (blk_cell BT.out 0).trans rfl; have ht1 : w9.cell? ⟨gt, 1, none⟩ = some (.bool t1) := (blk_cell BT.out 1).trans rfl))
          go_ret
          exact ⟨by rw [← hS.out]; rfl, HB.out⟩
        · skip
          have hS := Aside0.mk ((show sylFrom s t0 t1 4 2 = syl s t0 t1 by rw [← HS.out]; exact (if_neg (by simp [c1, c2])).symm))
          clear HS
          replace c1 := eq_true c1
          replace c2 := eq_false c2
          go_wp2_with (first | ((with_reducible refine gate_dst (N := 6) rfl ?_); refine box_event ?hg (N := 6) ?hd (cs := #[.int .i64 0, .bool false]) (t := 25) ?hr ?_; (case hd => rfl); (case hg => rfl); (case hr => first | (go_simp; done) | (go_simp; rfl)); intro go hg w8 hbox hb; have n0_ := Aside0.mk (below_step HB.out hb); have n1_ := Aside0.mk hbox; have n2_ := Aside0.mk (blk_below BT.out hb); have n3_ := Aside0.mk ((by rw [hg]; exact below_size HB.out) : w.heap.size ≤ go); have n4_ := Aside0.mk ((by rw [hg]; exact Nat.ne_of_lt (blk_lt BT.out)) : gt ≠ go); clear HB BT ht0 ht1; have HB := n0_; have BO := n1_; have BT := n2_; have GO := n3_; have GN := n4_; clear n0_ n1_ n2_ n3_ n4_; clear hb hbox hg) | ((with_reducible refine gate_store (t := 25) (p := 6) rfl ?_); refine store_blk (g := go) (off := 0) (e := 25) (cs := [.int .i64 0, .bool false]) rfl rfl 25 6 (.tmp 14) rfl rfl (.agg #[.int .i64 ((s : Int) + 1), .bool (hexSoft s 1)]) rfl [.int .i64 ((s : Int) + 1), .bool (hexSoft s 1)] BO.out rfl hi25 (Nat.le_refl 2) (by intro q hq; simp only [List.mem_cons, List.not_mem_nil, or_false] at hq; rcases hq with rfl | rfl <;> rfl) ?_; intro w9 hh hg; have n0_ := Aside0.mk (pw_below_grown HB.out _ (below_size HB.out) hg (fun k e => by cases e; exact GO.out)); have n3_ := Aside0.mk (blk_grown BT.out hg (fun e => GN.out (by cases e; rfl))); have ho0 : w9.cell? ⟨go, 0, none⟩ = some (.int .i64 ((s : Int) + 1)) := (blk_cell hh 0).trans rfl; have ho1 : w9.cell? ⟨go, 1, none⟩ = some (.bool (hexSoft s 1)) := (blk_cell hh 1).trans rfl; clear HB BO BT; have HB := n0_; have BT := n3_; clear n0_ n3_; clear hh hg; have ht0 : w9.cell? ⟨gt, 0, none⟩ = some (.int .i64 t0) := (blk_cell BT.out 0).trans rfl; have ht1 : w9.cell? ⟨gt, 1, none⟩ = some (.bool t1) := (blk_cell BT.out 1).trans rfl))
          go_roundg 4
          case measure => omega
          case rel => exact ⟨2, rfl, ⟨rfl⟩, hS, BT, HB⟩
      · skip
        have hS := Aside0.mk ((show sylFrom s t0 t1 4 2 = syl s t0 t1 by rw [← HS.out]; exact (if_neg (by simp [c1])).symm))
        clear HS
        replace c1 := eq_false c1
        go_wp2_with (first | ((with_reducible refine gate_dst (N := 6) rfl ?_); refine box_event ?hg (N := 6) ?hd (cs := #[.int .i64 0, .bool false]) (t := 25) ?hr ?_; (case hd => rfl); (case hg => rfl); (case hr => first | (go_simp; done) | (go_simp; rfl)); intro go hg w8 hbox hb; have n0_ := Aside0.mk (below_step HB.out hb); have n1_ := Aside0.mk hbox; have n2_ := Aside0.mk (blk_below BT.out hb); have n3_ := Aside0.mk ((by rw [hg]; exact below_size HB.out) : w.heap.size ≤ go); have n4_ := Aside0.mk ((by rw [hg]; exact Nat.ne_of_lt (blk_lt BT.out)) : gt ≠ go); clear HB BT ht0 ht1; have HB := n0_; have BO := n1_; have BT := n2_; have GO := n3_; have GN := n4_; clear n0_ n1_ n2_ n3_ n4_; clear hb hbox hg) | ((with_reducible refine gate_store (t := 25) (p := 6) rfl ?_); refine store_blk (g := go) (off := 0) (e := 25) (cs := [.int .i64 0, .bool false]) rfl rfl 25 6 (.tmp 14) rfl rfl (.agg #[.int .i64 ((s : Int) + 1), .bool (hexSoft s 1)]) rfl [.int .i64 ((s : Int) + 1), .bool (hexSoft s 1)] BO.out rfl hi25 (Nat.le_refl 2) (by intro q hq; simp only [List.mem_cons, List.not_mem_nil, or_false] at hq; rcases hq with rfl | rfl <;> rfl) ?_; intro w9 hh hg; have n0_ := Aside0.mk (pw_below_grown HB.out _ (below_size HB.out) hg (fun k e => by cases e; exact GO.out)); have n3_ := Aside0.mk (blk_grown BT.out hg (fun e => GN.out (by cases e; rfl))); have ho0 : w9.cell? ⟨go, 0, none⟩ = some (.int .i64 ((s : Int) + 1)) := (blk_cell hh 0).trans rfl; have ho1 : w9.cell? ⟨go, 1, none⟩ = some (.bool (hexSoft s 1)) := (blk_cell hh 1).trans rfl; clear HB BO BT; have HB := n0_; have BT := n3_; clear n0_ n3_; clear hh hg; have ht0 : w9.cell? ⟨gt, 0, none⟩ = some (.int .i64 t0) := (blk_cell BT.out 0).trans rfl; have ht1 : w9.cell? ⟨gt, 1, none⟩ = some (.bool t1) := (blk_cell BT.out 1).trans rfl))
        go_roundg 4
        case measure => omega
        case rel => exact ⟨2, rfl, ⟨rfl⟩, hS, BT, HB⟩
    · obtain rfl : u11 = .int .i64 2 := hv
      have hix : ∀ W : World, (Instr.index 46 (.agg #[.int .i64 (s : Int), .bool (hexSoft s 0), .int .i64 ((s : Int) + 1), .bool (hexSoft s 1), .int .i64 ((s : Int) + 2), .bool (hexSoft s 2), .int .i64 ((s : Int) + 3), .bool (hexSoft s 3), .int .i64 ((s : Int) + 4), .bool (hexSoft s 4), .int .i64 ((s : Int) + 5), .bool (hexSoft s 5)]) (.int .i64 2)).run Tryd.prog W = .ok (.agg #[.int .i64 ((s : Int) + 2), .bool (hexSoft s 2)]) W := fun W => by kernel_rfl
      obtain rfl : gk = 3 + 1 := by have := HI.out; omega
      by_cases c1 : ((s : Int) + 2) = t0
      · by_cases c2 : hexSoft s 2 = t1
        · skip
          have hS := Aside0.mk ((show (2 : Int) = syl s t0 t1 by rw [← HS.out]; exact (if_pos (by simp [c1, c2])).symm))
          clear HS
          replace c1 := eq_true c1
          replace c2 := eq_true c2
          go_wp2_with (first | ((with_reducible refine gate_dst (N := 6) rfl ?_); refine box_event ?hg (N := 6) ?hd (cs := #[.int .i64 0, .bool false]) (t := 25) ?hr ?_; (case hd => rfl); (case hg => rfl); (case hr => first | (go_simp; done) | (go_simp; rfl)); intro go hg w8 hbox hb; have n0_ := Aside0.mk (below_step HB.out hb); have n1_ := Aside0.mk hbox; have n2_ := Aside0.mk (blk_below BT.out hb); have n3_ := Aside0.mk ((by rw [hg]; exact below_size HB.out) : w.heap.size ≤ go); have n4_ := Aside0.mk ((by rw [hg]; exact Nat.ne_of_lt (blk_lt BT.out)) : gt ≠ go); clear HB BT ht0 ht1; have HB := n0_; have BO := n1_; have BT := n2_; have GO := n3_; have GN := n4_; clear n0_ n1_ n2_ n3_ n4_; clear hb hbox hg) | ((with_reducible refine gate_store (t := 25) (p := 6) rfl ?_); refine store_blk (g := go) (off := 0) (e := 25) (cs := [.int .i64 0, .bool false]) rfl rfl 25 6 (.tmp 14) rfl rfl (.agg #[.int .i64 ((s : Int) + 2), .bool (hexSoft s 2)]) rfl [.int .i64 ((s : Int) + 2), .bool (hexSoft s 2)] BO.out rfl hi25 (Nat.le_refl 2) (by intro q hq; simp only [List.mem_cons, List.not_mem_nil, or_false] at hq; rcases hq with rfl | rfl <;> rfl) ?_; intro w9 hh hg; have n0_ := Aside0.mk (pw_below_grown HB.out _ (below_size HB.out) hg (fun k e => by cases e; exact GO.out)); have n3_ := Aside0.mk (blk_grown BT.out hg (fun e => GN.out (by cases e; rfl))); have ho0 : w9.cell? ⟨go, 0, none⟩ = some (.int .i64 ((s : Int) + 2)) := (blk_cell hh 0).trans rfl; have ho1 : w9.cell? ⟨go, 1, none⟩ = some (.bool (hexSoft s 2)) := (blk_cell hh 1).trans rfl; clear HB BO BT; have HB := n0_; have BT := n3_; clear n0_ n3_; clear hh hg; have ht0 : w9.cell? ⟨gt, 0, none⟩ = some (.int .i64 t0) := (blk_cell BT.out 0).trans rfl; have ht1 : w9.cell? ⟨gt, 1, none⟩ = some (.bool t1) := (blk_cell BT.out 1).trans rfl))
          go_ret
          exact ⟨by rw [← hS.out]; rfl, HB.out⟩
        · skip
          have hS := Aside0.mk ((show sylFrom s t0 t1 3 3 = syl s t0 t1 by rw [← HS.out]; exact (if_neg (by simp [c1, c2])).symm))
          clear HS
          replace c1 := eq_true c1
          replace c2 := eq_false c2
          go_wp2_with (first | ((with_reducible refine gate_dst (N := 6) rfl ?_); refine box_event ?hg (N := 6) ?hd (cs := #[.int .i64 0, .bool false]) (t := 25) ?hr ?_; (case hd => rfl); (case hg => rfl); (case hr => first | (go_simp; done) | (go_simp; rfl)); intro go hg w8 hbox hb; have n0_ := Aside0.mk (below_step HB.out hb); have n1_ := Aside0.mk hbox; have n2_ := Aside0.mk (blk_below BT.out hb); have n3_ := Aside0.mk ((by rw [hg]; exact below_size HB.out) : w.heap.size ≤ go); have n4_ := Aside0.mk ((by rw [hg]; exact Nat.ne_of_lt (blk_lt BT.out)) : gt ≠ go); clear HB BT ht0 ht1; have HB := n0_; have BO := n1_; have BT := n2_; have GO := n3_; have GN := n4_; clear n0_ n1_ n2_ n3_ n4_; clear hb hbox hg) | ((with_reducible refine gate_store (t := 25) (p := 6) rfl ?_); refine store_blk (g := go) (off := 0) (e := 25) (cs := [.int .i64 0, .bool false]) rfl rfl 25 6 (.tmp 14) rfl rfl (.agg #[.int .i64 ((s : Int) + 2), .bool (hexSoft s 2)]) rfl [.int .i64 ((s : Int) + 2), .bool (hexSoft s 2)] BO.out rfl hi25 (Nat.le_refl 2) (by intro q hq; simp only [List.mem_cons, List.not_mem_nil, or_false] at hq; rcases hq with rfl | rfl <;> rfl) ?_; intro w9 hh hg; have n0_ := Aside0.mk (pw_below_grown HB.out _ (below_size HB.out) hg (fun k e => by cases e; exact GO.out)); have n3_ := Aside0.mk (blk_grown BT.out hg (fun e => GN.out (by cases e; rfl))); have ho0 : w9.cell? ⟨go, 0, none⟩ = some (.int .i64 ((s : Int) + 2)) := (blk_cell hh 0).trans rfl; have ho1 : w9.cell? ⟨go, 1, none⟩ = some (.bool (hexSoft s 2)) := (blk_cell hh 1).trans rfl; clear HB BO BT; have HB := n0_; have BT := n3_; clear n0_ n3_; clear hh hg; have ht0 : w9.cell? ⟨gt, 0, none⟩ = some (.int .i64 t0) := (blk_cell BT.out 0).trans rfl; have ht1 : w9.cell? ⟨gt, 1, none⟩ = some (.bool t1) := (blk_cell BT.out 1).trans rfl))
          go_roundg 3
          case measure => omega
          case rel => exact ⟨3, rfl, ⟨rfl⟩, hS, BT, HB⟩
      · skip
        have hS := Aside0.mk ((show sylFrom s t0 t1 3 3 = syl s t0 t1 by rw [← HS.out]; exact (if_neg (by simp [c1])).symm))
        clear HS
        replace c1 := eq_false c1
        go_wp2_with (first | ((with_reducible refine gate_dst (N := 6) rfl ?_); refine box_event ?hg (N := 6) ?hd (cs := #[.int .i64 0, .bool false]) (t := 25) ?hr ?_; (case hd => rfl); (case hg => rfl); (case hr => first | (go_simp; done) | (go_simp; rfl)); intro go hg w8 hbox hb; have n0_ := Aside0.mk (below_step HB.out hb); have n1_ := Aside0.mk hbox; have n2_ := Aside0.mk (blk_below BT.out hb); have n3_ := Aside0.mk ((by rw [hg]; exact below_size HB.out) : w.heap.size ≤ go); have n4_ := Aside0.mk ((by rw [hg]; exact Nat.ne_of_lt (blk_lt BT.out)) : gt ≠ go); clear HB BT ht0 ht1; have HB := n0_; have BO := n1_; have BT := n2_; have GO := n3_; have GN := n4_; clear n0_ n1_ n2_ n3_ n4_; clear hb hbox hg) | ((with_reducible refine gate_store (t := 25) (p := 6) rfl ?_); refine store_blk (g := go) (off := 0) (e := 25) (cs := [.int .i64 0, .bool false]) rfl rfl 25 6 (.tmp 14) rfl rfl (.agg #[.int .i64 ((s : Int) + 2), .bool (hexSoft s 2)]) rfl [.int .i64 ((s : Int) + 2), .bool (hexSoft s 2)] BO.out rfl hi25 (Nat.le_refl 2) (by intro q hq; simp only [List.mem_cons, List.not_mem_nil, or_false] at hq; rcases hq with rfl | rfl <;> rfl) ?_; intro w9 hh hg; have n0_ := Aside0.mk (pw_below_grown HB.out _ (below_size HB.out) hg (fun k e => by cases e; exact GO.out)); have n3_ := Aside0.mk (blk_grown BT.out hg (fun e => GN.out (by cases e; rfl))); have ho0 : w9.cell? ⟨go, 0, none⟩ = some (.int .i64 ((s : Int) + 2)) := (blk_cell hh 0).trans rfl; have ho1 : w9.cell? ⟨go, 1, none⟩ = some (.bool (hexSoft s 2)) := (blk_cell hh 1).trans rfl; clear HB BO BT; have HB := n0_; have BT := n3_; clear n0_ n3_; clear hh hg; have ht0 : w9.cell? ⟨gt, 0, none⟩ = some (.int .i64 t0) := (blk_cell BT.out 0).trans rfl; have ht1 : w9.cell? ⟨gt, 1, none⟩ = some (.bool t1) := (blk_cell BT.out 1).trans rfl))
        go_roundg 3
        case measure => omega
        case rel => exact ⟨3, rfl, ⟨rfl⟩, hS, BT, HB⟩
    · obtain rfl : u11 = .int .i64 3 := hv
      have hix : ∀ W : World, (Instr.index 46 (.agg #[.int .i64 (s : Int), .bool (hexSoft s 0), .int .i64 ((s : Int) + 1), .bool (hexSoft s 1), .int .i64 ((s : Int) + 2), .bool (hexSoft s 2), .int .i64 ((s : Int) + 3), .bool (hexSoft s 3), .int .i64 ((s : Int) + 4), .bool (hexSoft s 4), .int .i64 ((s : Int) + 5), .bool (hexSoft s 5)]) (.int .i64 3)).run Tryd.prog W = .ok (.agg #[.int .i64 ((s : Int) + 3), .bool (hexSoft s 3)]) W := fun W => by kernel_rfl
      obtain rfl : gk = 2 + 1 := by have := HI.out; omega
      by_cases c1 : ((s : Int) + 3) = t0
      · by_cases c2 : hexSoft s 3 = t1
        · skip
          have hS := Aside0.mk ((show (3 : Int) = syl s t0 t1 by rw [← HS.out]; exact (if_pos (by simp [c1, c2])).symm))
          clear HS
          replace c1 := eq_true c1
          replace c2 := eq_true c2
          go_wp2_with (first | ((with_reducible refine gate_dst (N := 6) rfl ?_); refine box_event ?hg (N := 6) ?hd (cs := #[.int .i64 0, .bool false]) (t := 25) ?hr ?_; (case hd => rfl); (case hg => rfl); (case hr => first | (go_simp; done) | (go_simp; rfl)); intro go hg w8 hbox hb; have n0_ := Aside0.mk (below_step HB.out hb); have n1_ := Aside0.mk hbox; have n2_ := Aside0.mk (blk_below BT.out hb); have n3_ := Aside0.mk ((by rw [hg]; exact below_size HB.out) : w.heap.size ≤ go); have n4_ := Aside0.mk ((by rw [hg]; exact Nat.ne_of_lt (blk_lt BT.out)) : gt ≠ go); clear HB BT ht0 ht1; have HB := n0_; have BO := n1_; have BT := n2_; have GO := n3_; have GN := n4_; clear n0_ n1_ n2_ n3_ n4_; clear hb hbox hg) | ((with_reducible refine gate_store (t := 25) (p := 6) rfl ?_); refine store_blk (g := go) (off := 0) (e := 25) (cs := [.int .i64 0, .bool false]) rfl rfl 25 6 (.tmp 14) rfl rfl (.agg #[.int .i64 ((s : Int) + 3), .bool (hexSoft s 3)]) rfl [.int .i64 ((s : Int) + 3), .bool (hexSoft s 3)] BO.out rfl hi25 (Nat.le_refl 2) (by intro q hq; simp only [List.mem_cons, List.not_mem_nil, or_false] at hq; rcases hq with rfl | rfl <;> rfl) ?_; intro w9 hh hg; have n0_ := Aside0.mk (pw_below_grown HB.out _ (below_size HB.out) hg (fun k e => by cases e; exact GO.out)); have n3_ := Aside0.mk (blk_grown BT.out hg (fun e => GN.out (by cases e; rfl))); have ho0 : w9.cell? ⟨go, 0, none⟩ = some (.int .i64 ((s : Int) + 3)) := (blk_cell hh 0).trans rfl; have ho1 : w9.cell? ⟨go, 1, none⟩ = some (.bool (hexSoft s 3)) := (blk_cell hh 1).trans rfl; clear HB BO BT; have HB := n0_; have BT := n3_; clear n0_ n3_; clear hh hg; have ht0 : w9.cell? ⟨gt, 0, none⟩ = some (.int .i64 t0) := (blk_cell BT.out 0).trans rfl; have ht1 : w9.cell? ⟨gt, 1, none⟩ = some (.bool t1) := (blk_cell BT.out 1).trans rfl))
          go_ret
          exact ⟨by rw [← hS.out]; rfl, HB.out⟩
        · skip
          have hS := Aside0.mk ((show sylFrom s t0 t1 2 4 = syl s t0 t1 by rw [← HS.out]; exact (if_neg (by simp [c1, c2])).symm))
          clear HS
          replace c1 := eq_true c1
          replace c2 := eq_false c2
          go_wp2_with (first | ((with_reducible refine gate_dst (N := 6) rfl ?_); refine box_event ?hg (N := 6) ?hd (cs := #[.int .i64 0, .bool false]) (t := 25) ?hr ?_; (case hd => rfl); (case hg => rfl); (case hr => first | (go_simp; done) | (go_simp; rfl)); intro go hg w8 hbox hb; have n0_ := Aside0.mk (below_step HB.out hb); have n1_ := Aside0.mk hbox; have n2_ := Aside0.mk (blk_below BT.out hb); have n3_ := Aside0.mk ((by rw [hg]; exact below_size HB.out) : w.heap.size ≤ go); have n4_ := Aside0.mk ((by rw [hg]; exact Nat.ne_of_lt (blk_lt BT.out)) : gt ≠ go); clear HB BT ht0 ht1; have HB := n0_; have BO := n1_; have BT := n2_; have GO := n3_; have GN := n4_; clear n0_ n1_ n2_ n3_ n4_; clear hb hbox hg) | ((with_reducible refine gate_store (t := 25) (p := 6) rfl ?_); refine store_blk (g := go) (off := 0) (e := 25) (cs := [.int .i64 0, .bool false]) rfl rfl 25 6 (.tmp 14) rfl rfl (.agg #[.int .i64 ((s : Int) + 3), .bool (hexSoft s 3)]) rfl [.int .i64 ((s : Int) + 3), .bool (hexSoft s 3)] BO.out rfl hi25 (Nat.le_refl 2) (by intro q hq; simp only [List.mem_cons, List.not_mem_nil, or_false] at hq; rcases hq with rfl | rfl <;> rfl) ?_; intro w9 hh hg; have n0_ := Aside0.mk (pw_below_grown HB.out _ (below_size HB.out) hg (fun k e => by cases e; exact GO.out)); have n3_ := Aside0.mk (blk_grown BT.out hg (fun e => GN.out (by cases e; rfl))); have ho0 : w9.cell? ⟨go, 0, none⟩ = some (.int .i64 ((s : Int) + 3)) := (blk_cell hh 0).trans rfl; have ho1 : w9.cell? ⟨go, 1, none⟩ = some (.bool (hexSoft s 3)) := (blk_cell hh 1).trans rfl; clear HB BO BT; have HB := n0_; have BT := n3_; clear n0_ n3_; clear hh hg; have ht0 : w9.cell? ⟨gt, 0, none⟩ = some (.int .i64 t0) := (blk_cell BT.out 0).trans rfl; have ht1 : w9.cell? ⟨gt, 1, none⟩ = some (.bool t1) := (blk_cell BT.out 1).trans rfl))
          go_roundg 2
          case measure => omega
          case rel => exact ⟨4, rfl, ⟨rfl⟩, hS, BT, HB⟩
      · skip
        have hS := Aside0.mk ((show sylFrom s t0 t1 2 4 = syl s t0 t1 by rw [← HS.out]; exact (if_neg (by simp [c1])).symm))
        clear HS
        replace c1 := eq_false c1
        go_wp2_with (first | ((with_reducible refine gate_dst (N := 6) rfl ?_); refine box_event ?hg (N := 6) ?hd (cs := #[.int .i64 0, .bool false]) (t := 25) ?hr ?_; (case hd => rfl); (case hg => rfl); (case hr => first | (go_simp; done) | (go_simp; rfl)); intro go hg w8 hbox hb; have n0_ := Aside0.mk (below_step HB.out hb); have n1_ := Aside0.mk hbox; have n2_ := Aside0.mk (blk_below BT.out hb); have n3_ := Aside0.mk ((by rw [hg]; exact below_size HB.out) : w.heap.size ≤ go); have n4_ := Aside0.mk ((by rw [hg]; exact Nat.ne_of_lt (blk_lt BT.out)) : gt ≠ go); clear HB BT ht0 ht1; have HB := n0_; have BO := n1_; have BT := n2_; have GO := n3_; have GN := n4_; clear n0_ n1_ n2_ n3_ n4_; clear hb hbox hg) | ((with_reducible refine gate_store (t := 25) (p := 6) rfl ?_); refine store_blk (g := go) (off := 0) (e := 25) (cs := [.int .i64 0, .bool false]) rfl rfl 25 6 (.tmp 14) rfl rfl (.agg #[.int .i64 ((s : Int) + 3), .bool (hexSoft s 3)]) rfl [.int .i64 ((s : Int) + 3), .bool (hexSoft s 3)] BO.out rfl hi25 (Nat.le_refl 2) (by intro q hq; simp only [List.mem_cons, List.not_mem_nil, or_false] at hq; rcases hq with rfl | rfl <;> rfl) ?_; intro w9 hh hg; have n0_ := Aside0.mk (pw_below_grown HB.out _ (below_size HB.out) hg (fun k e => by cases e; exact GO.out)); have n3_ := Aside0.mk (blk_grown BT.out hg (fun e => GN.out (by cases e; rfl))); have ho0 : w9.cell? ⟨go, 0, none⟩ = some (.int .i64 ((s : Int) + 3)) := (blk_cell hh 0).trans rfl; have ho1 : w9.cell? ⟨go, 1, none⟩ = some (.bool (hexSoft s 3)) := (blk_cell hh 1).trans rfl; clear HB BO BT; have HB := n0_; have BT := n3_; clear n0_ n3_; clear hh hg; have ht0 : w9.cell? ⟨gt, 0, none⟩ = some (.int .i64 t0) := (blk_cell BT.out 0).trans rfl; have ht1 : w9.cell? ⟨gt, 1, none⟩ = some (.bool t1) := (blk_cell BT.out 1).trans rfl))
        go_roundg 2
        case measure => omega
        case rel => exact ⟨4, rfl, ⟨rfl⟩, hS, BT, HB⟩
    · obtain rfl : u11 = .int .i64 4 := hv
      have hix : ∀ W : World, (Instr.index 46 (.agg #[.int .i64 (s : Int), .bool (hexSoft s 0), .int .i64 ((s : Int) + 1), .bool (hexSoft s 1), .int .i64 ((s : Int) + 2), .bool (hexSoft s 2), .int .i64 ((s : Int) + 3), .bool (hexSoft s 3), .int .i64 ((s : Int) + 4), .bool (hexSoft s 4), .int .i64 ((s : Int) + 5), .bool (hexSoft s 5)]) (.int .i64 4)).run Tryd.prog W = .ok (.agg #[.int .i64 ((s : Int) + 4), .bool (hexSoft s 4)]) W := fun W => by kernel_rfl
      obtain rfl : gk = 1 + 1 := by have := HI.out; omega
      by_cases c1 : ((s : Int) + 4) = t0
      · by_cases c2 : hexSoft s 4 = t1
        · skip
          have hS := Aside0.mk ((show (4 : Int) = syl s t0 t1 by rw [← HS.out]; exact (if_pos (by simp [c1, c2])).symm))
          clear HS
          replace c1 := eq_true c1
          replace c2 := eq_true c2
          go_wp2_with (first | ((with_reducible refine gate_dst (N := 6) rfl ?_); refine box_event ?hg (N := 6) ?hd (cs := #[.int .i64 0, .bool false]) (t := 25) ?hr ?_; (case hd => rfl); (case hg => rfl); (case hr => first | (go_simp; done) | (go_simp; rfl)); intro go hg w8 hbox hb; have n0_ := Aside0.mk (below_step HB.out hb); have n1_ := Aside0.mk hbox; have n2_ := Aside0.mk (blk_below BT.out hb); have n3_ := Aside0.mk ((by rw [hg]; exact below_size HB.out) : w.heap.size ≤ go); have n4_ := Aside0.mk ((by rw [hg]; exact Nat.ne_of_lt (blk_lt BT.out)) : gt ≠ go); clear HB BT ht0 ht1; have HB := n0_; have BO := n1_; have BT := n2_; have GO := n3_; have GN := n4_; clear n0_ n1_ n2_ n3_ n4_; clear hb hbox hg) | ((with_reducible refine gate_store (t := 25) (p := 6) rfl ?_); refine store_blk (g := go) (off := 0) (e := 25) (cs := [.int .i64 0, .bool false]) rfl rfl 25 6 (.tmp 14) rfl rfl (.agg #[.int .i64 ((s : Int) + 4), .bool (hexSoft s 4)]) rfl [.int .i64 ((s : Int) + 4), .bool (hexSoft s 4)] BO.out rfl hi25 (Nat.le_refl 2) (by intro q hq; simp only [List.mem_cons, List.not_mem_nil, or_false] at hq; rcases hq with rfl | rfl <;> rfl) ?_; intro w9 hh hg; have n0_ := Aside0.mk (pw_below_grown HB.out _ (below_size HB.out) hg (fun k e => by cases e; exact GO.out)); have n3_ := Aside0.mk (blk_grown BT.out hg (fun e => GN.out (by cases e; rfl))); have ho0 : w9.cell? ⟨go, 0, none⟩ = some (.int .i64 ((s : Int) + 4)) := (blk_cell hh 0).trans rfl; have ho1 : w9.cell? ⟨go, 1, none⟩ = some (.bool (hexSoft s 4)) := (blk_cell hh 1).trans rfl; clear HB BO BT; have HB := n0_; have BT := n3_; clear n0_ n3_; clear hh hg; have ht0 : w9.cell? ⟨gt, 0, none⟩ = some (.int .i64 t0) := (blk_cell BT.out 0).trans rfl; have ht1 : w9.cell? ⟨gt, 1, none⟩ = some (.bool t1) := (blk_cell BT.out 1).trans rfl))
          go_ret
          exact ⟨by rw [← hS.out]; rfl, HB.out⟩
        · skip
          have hS := Aside0.mk ((show sylFrom s t0 t1 1 5 = syl s t0 t1 by rw [← HS.out]; exact (if_neg (by simp [c1, c2])).symm))
          clear HS
          replace c1 := eq_true c1
          replace c2 := eq_false c2
          go_wp2_with (first | ((with_reducible refine gate_dst (N := 6) rfl ?_); refine box_event ?hg (N := 6) ?hd (cs := #[.int .i64 0, .bool false]) (t := 25) ?hr ?_; (case hd => rfl); (case hg => rfl); (case hr => first | (go_simp; done) | (go_simp; rfl)); intro go hg w8 hbox hb; have n0_ := Aside0.mk (below_step HB.out hb); have n1_ := Aside0.mk hbox; have n2_ := Aside0.mk (blk_below BT.out hb); have n3_ := Aside0.mk ((by rw [hg]; exact below_size HB.out) : w.heap.size ≤ go); have n4_ := Aside0.mk ((by rw [hg]; exact Nat.ne_of_lt (blk_lt BT.out)) : gt ≠ go); clear HB BT ht0 ht1; have HB := n0_; have BO := n1_; have BT := n2_; have GO := n3_; have GN := n4_; clear n0_ n1_ n2_ n3_ n4_; clear hb hbox hg) | ((with_reducible refine gate_store (t := 25) (p := 6) rfl ?_); refine store_blk (g := go) (off := 0) (e := 25) (cs := [.int .i64 0, .bool false]) rfl rfl 25 6 (.tmp 14) rfl rfl (.agg #[.int .i64 ((s : Int) + 4), .bool (hexSoft s 4)]) rfl [.int .i64 ((s : Int) + 4), .bool (hexSoft s 4)] BO.out rfl hi25 (Nat.le_refl 2) (by intro q hq; simp only [List.mem_cons, List.not_mem_nil, or_false] at hq; rcases hq with rfl | rfl <;> rfl) ?_; intro w9 hh hg; have n0_ := Aside0.mk (pw_below_grown HB.out _ (below_size HB.out) hg (fun k e => by cases e; exact GO.out)); have n3_ := Aside0.mk (blk_grown BT.out hg (fun e => GN.out (by cases e; rfl))); have ho0 : w9.cell? ⟨go, 0, none⟩ = some (.int .i64 ((s : Int) + 4)) := (blk_cell hh 0).trans rfl; have ho1 : w9.cell? ⟨go, 1, none⟩ = some (.bool (hexSoft s 4)) := (blk_cell hh 1).trans rfl; clear HB BO BT; have HB := n0_; have BT := n3_; clear n0_ n3_; clear hh hg; have ht0 : w9.cell? ⟨gt, 0, none⟩ = some (.int .i64 t0) := (blk_cell BT.out 0).trans rfl; have ht1 : w9.cell? ⟨gt, 1, none⟩ = some (.bool t1) := (blk_cell BT.out 1).trans rfl))
          go_roundg 1
          case measure => omega
          case rel => exact ⟨5, rfl, ⟨rfl⟩, hS, BT, HB⟩
      · skip
        have hS := Aside0.mk ((show sylFrom s t0 t1 1 5 = syl s t0 t1 by rw [← HS.out]; exact (if_neg (by simp [c1])).symm))
        clear HS
        replace c1 := eq_false c1
        go_wp2_with (first | ((with_reducible refine gate_dst (N := 6) rfl ?_); refine box_event ?hg (N := 6) ?hd (cs := #[.int .i64 0, .bool false]) (t := 25) ?hr ?_; (case hd => rfl); (case hg => rfl); (case hr => first | (go_simp; done) | (go_simp; rfl)); intro go hg w8 hbox hb; have n0_ := Aside0.mk (below_step HB.out hb); have n1_ := Aside0.mk hbox; have n2_ := Aside0.mk (blk_below BT.out hb); have n3_ := Aside0.mk ((by rw [hg]; exact below_size HB.out) : w.heap.size ≤ go); have n4_ := Aside0.mk ((by rw [hg]; exact Nat.ne_of_lt (blk_lt BT.out)) : gt ≠ go); clear HB BT ht0 ht1; have HB := n0_; have BO := n1_; have BT := n2_; have GO := n3_; have GN := n4_; clear n0_ n1_ n2_ n3_ n4_; clear hb hbox hg) | ((with_reducible refine gate_store (t := 25) (p := 6) rfl ?_); refine store_blk (g := go) (off := 0) (e := 25) (cs := [.int .i64 0, .bool false]) rfl rfl 25 6 (.tmp 14) rfl rfl (.agg #[.int .i64 ((s : Int) + 4), .bool (hexSoft s 4)]) rfl [.int .i64 ((s : Int) + 4), .bool (hexSoft s 4)] BO.out rfl hi25 (Nat.le_refl 2) (by intro q hq; simp only [List.mem_cons, List.not_mem_nil, or_false] at hq; rcases hq with rfl | rfl <;> rfl) ?_; intro w9 hh hg; have n0_ := Aside0.mk (pw_below_grown HB.out _ (below_size HB.out) hg (fun k e => by cases e; exact GO.out)); have n3_ := Aside0.mk (blk_grown BT.out hg (fun e => GN.out (by cases e; rfl))); have ho0 : w9.cell? ⟨go, 0, none⟩ = some (.int .i64 ((s : Int) + 4)) := (blk_cell hh 0).trans rfl; have ho1 : w9.cell? ⟨go, 1, none⟩ = some (.bool (hexSoft s 4)) := (blk_cell hh 1).trans rfl; clear HB BO BT; have HB := n0_; have BT := n3_; clear n0_ n3_; clear hh hg; have ht0 : w9.cell? ⟨gt, 0, none⟩ = some (.int .i64 t0) := (blk_cell BT.out 0).trans rfl; have ht1 : w9.cell? ⟨gt, 1, none⟩ = some (.bool t1) := (blk_cell BT.out 1).trans rfl))
        go_roundg 1
        case measure => omega
        case rel => exact ⟨5, rfl, ⟨rfl⟩, hS, BT, HB⟩
    · obtain rfl : u11 = .int .i64 5 := hv
      have hix : ∀ W : World, (Instr.index 46 (.agg #[.int .i64 (s : Int), .bool (hexSoft s 0), .int .i64 ((s : Int) + 1), .bool (hexSoft s 1), .int .i64 ((s : Int) + 2), .bool (hexSoft s 2), .int .i64 ((s : Int) + 3), .bool (hexSoft s 3), .int .i64 ((s : Int) + 4), .bool (hexSoft s 4), .int .i64 ((s : Int) + 5), .bool (hexSoft s 5)]) (.int .i64 5)).run Tryd.prog W = .ok (.agg #[.int .i64 ((s : Int) + 5), .bool (hexSoft s 5)]) W := fun W => by kernel_rfl
      obtain rfl : gk = 0 + 1 := by have := HI.out; omega
      by_cases c1 : ((s : Int) + 5) = t0
      · by_cases c2 : hexSoft s 5 = t1
        · skip
          have hS := Aside0.mk ((show (5 : Int) = syl s t0 t1 by rw [← HS.out]; exact (if_pos (by simp [c1, c2])).symm))
          clear HS
          replace c1 := eq_true c1
          replace c2 := eq_true c2
          go_wp2_with (first | ((with_reducible refine gate_dst (N := 6) rfl ?_); refine box_event ?hg (N := 6) ?hd (cs := #[.int .i64 0, .bool false]) (t := 25) ?hr ?_; (case hd => rfl); (case hg => rfl); (case hr => first | (go_simp; done) | (go_simp; rfl)); intro go hg w8 hbox hb; have n0_ := Aside0.mk (below_step HB.out hb); have n1_ := Aside0.mk hbox; have n2_ := Aside0.mk (blk_below BT.out hb); have n3_ := Aside0.mk ((by rw [hg]; exact below_size HB.out) : w.heap.size ≤ go); have n4_ := Aside0.mk ((by rw [hg]; exact Nat.ne_of_lt (blk_lt BT.out)) : gt ≠ go); clear HB BT ht0 ht1; have HB := n0_; have BO := n1_; have BT := n2_; have GO := n3_; have GN := n4_; clear n0_ n1_ n2_ n3_ n4_; clear hb hbox hg) | ((with_reducible refine gate_store (t := 25) (p := 6) rfl ?_); refine store_blk (g := go) (off := 0) (e := 25) (cs := [.int .i64 0, .bool false]) rfl rfl 25 6 (.tmp 14) rfl rfl (.agg #[.int .i64 ((s : Int) + 5), .bool (hexSoft s 5)]) rfl [.int .i64 ((s : Int) + 5), .bool (hexSoft s 5)] BO.out rfl hi25 (Nat.le_refl 2) (by intro q hq; simp only [List.mem_cons, List.not_mem_nil, or_false] at hq; rcases hq with rfl | rfl <;> rfl) ?_; intro w9 hh hg; have n0_ := Aside0.mk (pw_below_grown HB.out _ (below_size HB.out) hg (fun k e => by cases e; exact GO.out)); have n3_ := Aside0.mk (blk_grown BT.out hg (fun e => GN.out (by cases e; rfl))); have ho0 : w9.cell? ⟨go, 0, none⟩ = some (.int .i64 ((s : Int) + 5)) := (blk_cell hh 0).trans rfl; have ho1 : w9.cell? ⟨go, 1, none⟩ = some (.bool (hexSoft s 5)) := (blk_cell hh 1).trans rfl; clear HB BO BT; have HB := n0_; have BT := n3_; clear n0_ n3_; clear hh hg; have ht0 : w9.cell? ⟨gt, 0, none⟩ = some (.int .i64 t0) := (blk_cell BT.out 0).trans rfl; have ht1 : w9.cell? ⟨gt, 1, none⟩ = some (.bool t1) := (blk_cell BT.out 1).trans rfl))
          go_ret
          exact ⟨by rw [← hS.out]; rfl, HB.out⟩
        · skip
          have hS := Aside0.mk ((show sylFrom s t0 t1 0 6 = syl s t0 t1 by rw [← HS.out]; exact (if_neg (by simp [c1, c2])).symm))
          clear HS
          replace c1 := eq_true c1
          replace c2 := eq_false c2
          go_wp2_with (first | ((with_reducible refine gate_dst (N := 6) rfl ?_); refine box_event ?hg (N := 6) ?hd (cs := #[.int .i64 0, .bool false]) (t := 25) ?hr ?_; (case hd => rfl); (case hg => rfl); (case hr => first | (go_simp; done) | (go_simp; rfl)); intro go hg w8 hbox hb; have n0_ := Aside0.mk (below_step HB.out hb); have n1_ := Aside0.mk hbox; have n2_ := Aside0.mk (blk_below BT.out hb); have n3_ := Aside0.mk ((by rw [hg]; exact below_size HB.out) : w.heap.size ≤ go); have n4_ := Aside0.mk ((by rw [hg]; exact Nat.ne_of_lt (blk_lt BT.out)) : gt ≠ go); clear HB BT ht0 ht1; have HB := n0_; have BO := n1_; have BT := n2_; have GO := n3_; have GN := n4_; clear n0_ n1_ n2_ n3_ n4_; clear hb hbox hg) | ((with_reducible refine gate_store (t := 25) (p := 6) rfl ?_); refine store_blk (g := go) (off := 0) (e := 25) (cs := [.int .i64 0, .bool false]) rfl rfl 25 6 (.tmp 14) rfl rfl (.agg #[.int .i64 ((s : Int) + 5), .bool (hexSoft s 5)]) rfl [.int .i64 ((s : Int) + 5), .bool (hexSoft s 5)] BO.out rfl hi25 (Nat.le_refl 2) (by intro q hq; simp only [List.mem_cons, List.not_mem_nil, or_false] at hq; rcases hq with rfl | rfl <;> rfl) ?_; intro w9 hh hg; have n0_ := Aside0.mk (pw_below_grown HB.out _ (below_size HB.out) hg (fun k e => by cases e; exact GO.out)); have n3_ := Aside0.mk (blk_grown BT.out hg (fun e => GN.out (by cases e; rfl))); have ho0 : w9.cell? ⟨go, 0, none⟩ = some (.int .i64 ((s : Int) + 5)) := (blk_cell hh 0).trans rfl; have ho1 : w9.cell? ⟨go, 1, none⟩ = some (.bool (hexSoft s 5)) := (blk_cell hh 1).trans rfl; clear HB BO BT; have HB := n0_; have BT := n3_; clear n0_ n3_; clear hh hg; have ht0 : w9.cell? ⟨gt, 0, none⟩ = some (.int .i64 t0) := (blk_cell BT.out 0).trans rfl; have ht1 : w9.cell? ⟨gt, 1, none⟩ = some (.bool t1) := (blk_cell BT.out 1).trans rfl))
          go_roundg 0
          case measure => omega
          case rel => exact ⟨6, rfl, ⟨rfl⟩, hS, BT, HB⟩
      · skip
        have hS := Aside0.mk ((show sylFrom s t0 t1 0 6 = syl s t0 t1 by rw [← HS.out]; exact (if_neg (by simp [c1])).symm))
        clear HS
        replace c1 := eq_false c1
        go_wp2_with (first | ((with_reducible refine gate_dst (N := 6) rfl ?_); refine box_event ?hg (N := 6) ?hd (cs := #[.int .i64 0, .bool false]) (t := 25) ?hr ?_; (case hd => rfl); (case hg => rfl); (case hr => first | (go_simp; done) | (go_simp; rfl)); intro go hg w8 hbox hb; have n0_ := Aside0.mk (below_step HB.out hb); have n1_ := Aside0.mk hbox; have n2_ := Aside0.mk (blk_below BT.out hb); have n3_ := Aside0.mk ((by rw [hg]; exact below_size HB.out) : w.heap.size ≤ go); have n4_ := Aside0.mk ((by rw [hg]; exact Nat.ne_of_lt (blk_lt BT.out)) : gt ≠ go); clear HB BT ht0 ht1; have HB := n0_; have BO := n1_; have BT := n2_; have GO := n3_; have GN := n4_; clear n0_ n1_ n2_ n3_ n4_; clear hb hbox hg) | ((with_reducible refine gate_store (t := 25) (p := 6) rfl ?_); refine store_blk (g := go) (off := 0) (e := 25) (cs := [.int .i64 0, .bool false]) rfl rfl 25 6 (.tmp 14) rfl rfl (.agg #[.int .i64 ((s : Int) + 5), .bool (hexSoft s 5)]) rfl [.int .i64 ((s : Int) + 5), .bool (hexSoft s 5)] BO.out rfl hi25 (Nat.le_refl 2) (by intro q hq; simp only [List.mem_cons, List.not_mem_nil, or_false] at hq; rcases hq with rfl | rfl <;> rfl) ?_; intro w9 hh hg; have n0_ := Aside0.mk (pw_below_grown HB.out _ (below_size HB.out) hg (fun k e => by cases e; exact GO.out)); have n3_ := Aside0.mk (blk_grown BT.out hg (fun e => GN.out (by cases e; rfl))); have ho0 : w9.cell? ⟨go, 0, none⟩ = some (.int .i64 ((s : Int) + 5)) := (blk_cell hh 0).trans rfl; have ho1 : w9.cell? ⟨go, 1, none⟩ = some (.bool (hexSoft s 5)) := (blk_cell hh 1).trans rfl; clear HB BO BT; have HB := n0_; have BT := n3_; clear n0_ n3_; clear hh hg; have ht0 : w9.cell? ⟨gt, 0, none⟩ = some (.int .i64 t0) := (blk_cell BT.out 0).trans rfl; have ht1 : w9.cell? ⟨gt, 1, none⟩ = some (.bool t1) := (blk_cell BT.out 1).trans rfl))
        go_roundg 0
        case measure => omega
        case rel => exact ⟨6, rfl, ⟨rfl⟩, hS, BT, HB⟩
    · obtain rfl : u11 = .int .i64 6 := hv
      obtain rfl : gk = 0 := by have := HI.out; omega
      have hS := Aside0.mk ((show (-1 : Int) = syl s t0 t1 by rw [← HS.out]; rfl))
      go_wp2
      go_ret
      exact ⟨by rw [← hS.out]; rfl, HB.out⟩

/-! ### impl_ToneNames: function 8 -/
theorem sns_size (i : Nat) : (sns.getD i ⟨#[]⟩).size ≤ 3 := by
  unfold sns
  match i with
  | 0 | 1 | 2 | 3 | 4 | 5 => decide
  | n + 6 =>
    simp
    decide
/-- The names out of the hexachords that begin at l's steps, behind a text. -/
def namesFrom (t0 : Int) (t1 : Bool) : List Nat → ByteArray → ByteArray
  | [], x => x
  | s :: l, x => if syl s t0 t1 < 0 then namesFrom t0 t1 l x else namesFrom t0 t1 l ((if x.toList = ([] : List UInt8) then x else x ++ ⟨#[32]⟩) ++ sns.getD (syl s t0 t1).toNat ⟨#[]⟩)
def impl_ToneNames.f (t0 : Int) (t1 : Bool) : Option ByteArray := some (namesFrom t0 t1 hexStarts.reverse ⟨#[]⟩)
theorem sylFrom_bd (s : Nat) (t0 : Int) (t1 : Bool) : ∀ (d i : Nat), sylFrom s t0 t1 d i < (i : Int) + d ∧ -1 ≤ sylFrom s t0 t1 d i
  | 0, i => by unfold sylFrom; omega
  | d + 1, i => by
    have := sylFrom_bd s t0 t1 d (i + 1)
    unfold sylFrom
    split <;> omega
theorem syl_bd (s : Nat) (t0 : Int) (t1 : Bool) : syl s t0 t1 < 6 ∧ -1 ≤ syl s t0 t1 := by
  have := sylFrom_bd s t0 t1 6 0
  unfold syl
  omega
theorem starts_take (k : Nat) (h : k < 7) : (hexStarts.take (k + 1)).reverse = hexStarts.getD k 0 :: (hexStarts.take k).reverse := by
  have : k = 0 ∨ k = 1 ∨ k = 2 ∨ k = 3 ∨ k = 4 ∨ k = 5 ∨ k = 6 := by omega
  rcases this with rfl | rfl | rfl | rfl | rfl | rfl | rfl <;> rfl
set_option maxHeartbeats 4000000 in
set_option maxRecDepth 100000 in
theorem impl_ToneNames.calls (t0 : Int) (t1 : Bool) (r : ByteArray) (w : World) (h : impl_ToneNames.f t0 t1 = some r) (hG : Aside0 (GL w)) :
    Calls Tryd.prog 8 #[.agg #[.int .i64 t0, .bool t1]] w fun e w' => e = .returned (.string r) ∧ Below w.heap.size w w' := by
  have HB : Aside0 (Below w.heap.size w w) := ⟨Below.refl _ _⟩
  have HH := Aside0.mk (Option.some.inj h)
  have HG1 : Aside0 (GH w) := ⟨GL.gh hG.out⟩
  have HG2 : Aside0 (GN w) := ⟨hG.out.2⟩
  clear h hG
  go_enter Tryd.func8, Tryd.ntmps8
  go_wp2_with (first | ((with_reducible refine gate_dst (N := 1) rfl ?_); refine box_event ?hg (N := 1) ?hd (cs := #[.int .i64 t0, .bool t1]) (t := 25) ?hr ?_; (case hd => rfl); (case hg => rfl); (case hr => first | (go_simp; done) | (go_simp; rfl)); intro gt hg w8 hbox hb; have n0_ := Aside0.mk (below_step HB.out hb); have n1_ := Aside0.mk hbox; clear HB; have HB := n0_; have BO := n1_; clear n0_ n1_; clear hb hbox hg) | ((with_reducible refine gate_callee (f := 20) rfl ?_); refine goesL_ (some 7) rfl rfl Tryd.func20 (by kernel_rfl) rfl #[] rfl (by simp) ?_; (with_reducible refine (impl_hexachords.calls _ (GH.aside HG1 HB.out)).mono ?_); rintro e w4 ⟨g0, v, rfl, ht, hr, hge, hb⟩; refine ⟨_, rfl, ?_⟩; obtain ⟨gl, cap, ev_, hgl, _, _⟩ := Kd.R_form hr (by decide); rw [show hexStarts.length = 7 from rfl] at ev_; subst ev_; have n0_ := Aside0.mk (below_step HB.out hb); have n1_ := Aside0.mk (blk_below BO.out hb); have HR := Aside0.mk (Kd.R_lower hr (below_size HB.out)); have BT := Aside0.mk ht; clear HB BO; have HB := n0_; have BO := n1_; clear n0_ n1_ hb hr ht hge hgl; have ht0 : w4.cell? ⟨g0, 0, none⟩ = some (.slice (some ⟨gl, 0, none⟩) 7 cap) := (blk_cell BT.out 0).trans rfl))
  clear ht0
  go_loopg [3, 5] 7 (fun kq v3 v5 w' => ∃ (x : ByteArray), v3 = .string x ∧ v5 = .int .i64 ((kq : Int) - 1) ∧ Aside0 (kq ≤ 7) ∧ Aside0 (namesFrom t0 t1 (hexStarts.take kq).reverse x = r) ∧ Aside0 (x.size + 4 * kq ≤ 28) ∧ Aside0 (w'.heap[gt]? = some (.cells #[.int .i64 t0, .bool t1] 25 (0, 0))) ∧ Aside0 (w'.heap[g0]? = some (.cells #[.slice (some ⟨gl, 0, none⟩) 7 cap] 45 (0, 0))) ∧ Aside0 (Kd.R kHex 48 w' w.heap.size (fun _ => True) (.slice (some ⟨gl, 0, none⟩) 7 cap) hexStarts) ∧ Aside0 (Below w.heap.size w w'))
  case atStart => exact ⟨⟨#[]⟩, rfl, rfl, ⟨Nat.le_refl _⟩, HH, ⟨by decide⟩, BO, BT, HR, HB⟩
  case round =>
    clear HB BO BT HR HH
    obtain ⟨x, rfl, rfl, HK, HA, HN, BO, BT, HR, HB⟩ := hrel
    cases gk with
    | zero =>
      have hz : decide ((0 : Int) ≤ ((0 : Nat) : Int) - 1) = false := by decide
      obtain rfl : x = r := HA.out
      go_wp2
      go_ret
      exact ⟨rfl, HB.out⟩
    | succ k =>
      have hk : k < 7 := by have := HK.out; omega
      have ek : (((k + 1 : Nat) : Int) - 1) = (k : Int) := by omega
      rw [ek]
      have hz : decide ((0 : Int) ≤ (k : Int)) = true := decide_eq_true (by omega)
      have p1 : 0 ≤ (k : Int) := by omega
      have q1 : (k : Int) < 7 := by omega
      obtain ⟨c, _, hM, hc, _⟩ := Kd.R_elem HR.out 0 (k : Int) p1 q1
      obtain ⟨s, hs⟩ : ∃ s, hexStarts.getD k 0 = s := ⟨_, rfl⟩
      rw [Int.toNat_natCast] at hM hc
      obtain rfl : c = hexCells s := by rw [← hs]; exact hM
      have HC := Aside0.mk (show ∀ j u, (hexCells s)[j]? = some u → wr.cell? ⟨gl, k * 13 + j, none⟩ = some u from hc)
      have hbd := syl_bd s t0 t1
      obtain ⟨y, hy⟩ : ∃ y, syl s t0 t1 = y := ⟨_, rfl⟩
      rw [hy] at hbd
      have Hbd := Aside0.mk hbd
      have Hy := Aside0.mk hy
      have HD := Aside0.mk (starts_take k hk)
      have HS := Aside0.mk hs
      clear hs hy hM hc hbd
      replace p1 := eq_true p1
      replace q1 := eq_true q1
      have ht0 : wr.cell? ⟨g0, 0, none⟩ = some (.slice (some ⟨gl, 0, none⟩) 7 cap) := (blk_cell BT.out 0).trans rfl
      have hb0 : wr.cell? ⟨gt, 0, none⟩ = some (.int .i64 t0) := (blk_cell BO.out 0).trans rfl
      have hb1 : wr.cell? ⟨gt, 1, none⟩ = some (.bool t1) := (blk_cell BO.out 1).trans rfl
      go_wp2
      go_region_with (go_at_call 21; refine (impl_hexachord_syllable.calls s gl (k * 13) t0 t1 wr.drew HC.out).mono ?_; rintro e w6 ⟨he, hb⟩; rw [Hy.out] at he; subst he)
      all_goals
        have HBd := Aside0.mk (below_step (below_drew1 HB.out) hb)
        have BOd := Aside0.mk (blk_below (blk_drew BO.out) hb)
        have BTd := Aside0.mk (blk_below (blk_drew BT.out) hb)
        have HRd := Aside0.mk (Kd.R_below (Kd.R_drew HR.out) hb)
        clear HB BO BT HR ht0 hb0 hb1 HC hb
        by_cases hy : 0 ≤ y
        · have hy6 := Hbd.out.1
          have hy2 : ¬ y < 0 := by omega
          have hia : ∀ W : World, (Instr.indexAt 50 (.pointer (some ⟨0, 0, none⟩)) (.int .i64 y)).run Tryd.prog W = .ok (.pointer (some ⟨0, y.toNat, none⟩)) W := fun W => by
            refine (run_indexAt_array (P := Tryd.prog) (w := W) 50 ⟨0, 0, none⟩ .i64 y (by kernel_rfl)).trans ?_
            rw [if_pos ⟨hy, by rw [show Tryd.prog.arrayLen 50 = 6 by kernel_rfl]; exact hy6⟩, show (sizeOf (Tryd.prog.elem 50)).run Tryd.prog W = .ok 1 W by kernel_rfl]
            simp only [Result.andThen, Nat.mul_one, add_plain]
          have hn0 := HG2.out.below HBd.out y.toNat (by omega)
          have hnz := sns_size y.toNat
          have HA2 := Aside0.mk (show namesFrom t0 t1 (hexStarts.take k).reverse ((if x.toList = ([] : List UInt8) then x else x ++ ⟨#[32]⟩) ++ sns.getD y.toNat ⟨#[]⟩) = r by
            have h2 := HA.out
            rw [HD.out, HS.out] at h2
            have h3 : namesFrom t0 t1 (s :: (hexStarts.take k).reverse) x = namesFrom t0 t1 (hexStarts.take k).reverse ((if x.toList = ([] : List UInt8) then x else x ++ ⟨#[32]⟩) ++ sns.getD (syl s t0 t1).toNat ⟨#[]⟩) := if_neg (by rw [Hy.out]; exact hy2)
            rw [h3, Hy.out] at h2
            exact h2)
          clear HA
          obtain ⟨n, hn⟩ : ∃ n, sns.getD y.toNat ⟨#[]⟩ = n := ⟨_, rfl⟩
          rw [hn] at hn0 hnz HA2
          have HZ := Aside0.mk hnz
          clear hnz hn
          by_cases hx : x.toList = ([] : List UInt8)
          · rw [if_pos hx] at HA2
            have c8b0 : (x.toList == ([] : List UInt8)) = true := beq_iff_eq.mpr hx
            have c8b1 : (x.toList != ([] : List UInt8)) = false := bne_eq_false_iff_eq.mpr hx
            have c8b2 : x.toList.isEmpty = true := by rw [hx]; rfl
            have hsz : x.size + n.size ≤ 9223372036854775807 := by have := HN.out; have := HZ.out; omega
            have hsz1 := eq_true hsz
            have hsz2 : (9223372036854775807 < x.size + n.size) = False := eq_false (Nat.not_lt.2 hsz)
            clear hx hsz
            go_wp2
            go_roundg k
            case measure => omega
            case rel => exact ⟨x ++ n, rfl, by first | rfl | (congr 1; done), ⟨by omega⟩, HA2, ⟨by have := HN.out; have := HZ.out; rw [ByteArray.size_append]; omega⟩, BOd, BTd, HRd, HBd⟩
          · rw [if_neg hx] at HA2
            have c8b0 : (x.toList == ([] : List UInt8)) = false := by simpa using hx
            have c8b1 : (x.toList != ([] : List UInt8)) = true := by simpa using hx
            have c8b2 : x.toList.isEmpty = false := by simpa using hx
            have hsz0 : x.size + 1 ≤ 9223372036854775807 := by have := HN.out; have := HZ.out; omega
            have hs1 := eq_true hsz0
            have hs2 : (9223372036854775807 < x.size + 1) = False := eq_false (Nat.not_lt.2 hsz0)
            have hsx : (x ++ (⟨#[32]⟩ : ByteArray)).size = x.size + 1 := by rw [ByteArray.size_append]; rfl
            have hsz : (x ++ (⟨#[32]⟩ : ByteArray)).size + n.size ≤ 9223372036854775807 := by have := HN.out; have := HZ.out; omega
            have hs3 := eq_true hsz
            have hs4 : (9223372036854775807 < (x ++ (⟨#[32]⟩ : ByteArray)).size + n.size) = False := eq_false (Nat.not_lt.2 hsz)
            have hs5 : x.size + 1 + n.size ≤ 9223372036854775807 := by omega
            have HX := Aside0.mk hsx
            clear hx hsz hsx hsz0
            go_wp2
            go_roundg k
            case measure => omega
            case rel => exact ⟨x ++ ⟨#[32]⟩ ++ n, rfl, by first | rfl | (congr 1; done), ⟨by omega⟩, HA2, ⟨by have := HN.out; have := HZ.out; have := HX.out; rw [ByteArray.size_append]; omega⟩, BOd, BTd, HRd, HBd⟩
        · have HA2 := Aside0.mk (show namesFrom t0 t1 (hexStarts.take k).reverse x = r by rw [← HA.out, HD.out, HS.out]; exact (if_pos (by rw [Hy.out]; omega)).symm)
          replace hy : y < 0 := by omega
          clear HA
          go_wp2
          go_roundg k
          case measure => omega
          case rel => exact ⟨x, rfl, by first | rfl | (congr 1; done), ⟨by omega⟩, HA2, ⟨by have := HN.out; omega⟩, BOd, BTd, HRd, HBd⟩

end Go.Proofs.YtpfgeflnhkpmaaaDoor.XN
