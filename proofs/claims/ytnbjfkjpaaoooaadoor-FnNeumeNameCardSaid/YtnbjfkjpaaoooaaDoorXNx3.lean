-- Written by this session's own program (wip/tools/xprint.py) out of the translation. Not trusted: Lean checks it.
import Derived.Test.YtnbjfkjpaaoooaaDoorXNx0
import Derived.Test.YtnbjfkjpaaoooaaDoorXNx1
namespace Go.Proofs.YtnbjfkjpaaoooaaDoor.XN
open Go.RowKit Go.Proofs.YtnbjfkjpaaoooaaDoorW.PrintWords Go.Proofs.YtnbjfkjpaaoooaaDoorW.PrintLast Go.Proofs.YtnbjfkjpaaoooaaDoorW.PrintMore
attribute [local go_sem] max2_int min2_int max_two min_two max_three min_three max_four min_four   -- for this text's walks alone
set_option linter.unusedVariables false
set_option linter.unusedSimpArgs false

/-! ### spec_l3Contours: function 44 -/
mutual
def spec_l3Contours.l0 : Nat → List ByteArray → List ByteArray → Int → Option (List ByteArray)
  | 0, _, _, _ => none
  | k + 1, x3, x4, x5 => if x5 < (x4.length : Int) then (if 0 ≤ x5 then (if (rdOf ByteArray.empty x4 x5).size + 1 ≤ 9223372036854775807 then ((some (([(rdOf ByteArray.empty x4 x5) ++ (⟨#[117]⟩ : ByteArray), (rdOf ByteArray.empty x4 x5) ++ (⟨#[100]⟩ : ByteArray), (rdOf ByteArray.empty x4 x5) ++ (⟨#[115]⟩ : ByteArray)] : List ByteArray) : List ByteArray)).bind fun y117 => (if x3.length + y117.length < 8796093022208 then (spec_l3Contours.l0 k (x3 ++ y117) x4 (wrap64 (x5 + 1))) else (none))) else (none)) else (none)) else (some x3)
def spec_l3Contours.f : Nat → Int → Option (List ByteArray)
  | 0, _ => none
  | k + 1, a0 => if a0 = 0 then (some (([(⟨#[]⟩ : ByteArray)] : List ByteArray))) else ((spec_l3Contours.f k (wrap64 (a0 - 1))).bind fun t111 => (spec_l3Contours.l0 k (([] : List ByteArray)) t111 0))
end
theorem spec_l3Contours.mono_l : ∀ k, (∀ y0, LeO (spec_l3Contours.f k y0) (spec_l3Contours.f (k + 1) y0)) ∧ (∀ y0 y1 y2, LeO (spec_l3Contours.l0 k y0 y1 y2) (spec_l3Contours.l0 (k + 1) y0 y1 y2))
  | 0 => ⟨fun _ r h => by simp [spec_l3Contours.f] at h, fun _ _ _ r h => by simp [spec_l3Contours.l0] at h⟩
  | k + 1 => by
    obtain ⟨ih0, ih1⟩ := spec_l3Contours.mono_l k
    refine ⟨?_, ?_⟩
    · intro y0
      unfold spec_l3Contours.f
      repeat' first
      | (with_reducible exact ih0 _)
      | (with_reducible exact ih1 _ _ _)
      | (with_reducible exact LeO.refl _)
      | (with_reducible exact LeO.none _)
      | (with_reducible refine LeO.ite ?_ ?_)
      | (with_reducible refine LeO.bind ?_ (fun _ => ?_))
      | exact ih0 _
      | exact ih1 _ _ _
      | exact LeO.none _
      | refine LeO.ite ?_ ?_
      | refine LeO.bind ?_ (fun _ => ?_)
    · intro y0 y1 y2
      unfold spec_l3Contours.l0
      repeat' first
      | (with_reducible exact ih0 _)
      | (with_reducible exact ih1 _ _ _)
      | (with_reducible exact LeO.refl _)
      | (with_reducible exact LeO.none _)
      | (with_reducible refine LeO.ite ?_ ?_)
      | (with_reducible refine LeO.bind ?_ (fun _ => ?_))
      | exact ih0 _
      | exact ih1 _ _ _
      | exact LeO.none _
      | refine LeO.ite ?_ ?_
      | refine LeO.bind ?_ (fun _ => ?_)
theorem spec_l3Contours.mono : ∀ a0 k, LeO (spec_l3Contours.f k a0) (spec_l3Contours.f (k + 1) a0) := by
  intro a0 k
  obtain ⟨ih0, ih1⟩ := spec_l3Contours.mono_l k
  exact ih0 a0
def spec_l3Contours.T8 : Bool × List (List Nat × List Nat) := (true, [([], []), ([], []), ([], []), ([1, 2], [1, 2]), ([3], [3]), ([4], [4]), ([], []), ([], []), ([6, 7], [6, 7]), ([8], [8]), ([9], [9]), ([], []), ([], []), ([11, 12], [11, 12]), ([13], [13]), ([14], [14]), ([5, 10, 15], [5, 10, 15]), ([0, 16], [0, 16]), ([17, 17, 0, 1, 2, 3, 4, 5, 6, 7, 8, 9, 10, 11, 12, 13, 14, 15, 16, 17], [0, 17])])
def spec_l3Contours.B8 : List Nat := [0, 0, 0, 6, 14, 30, 0, 0, 192, 448, 960, 0, 0, 6144, 14336, 30720, 65534, 131071, 262143]
theorem spec_l3Contours.tab8 : rtab .any (opsOf Tryd.f44 8) = spec_l3Contours.T8 := by kernel_rfl
theorem spec_l3Contours.bits8 : waitsOk spec_l3Contours.T8.2 spec_l3Contours.B8 = true := by kernel_rfl
set_option maxHeartbeats 8000000 in
set_option maxRecDepth 100000 in
theorem spec_l3Contours.calls (k : Nat) : ∀ (a0 : Int) (r : List ByteArray) (w : World) (h : spec_l3Contours.f k a0 = some r),
    Calls Tryd.prog 44 #[.int .i64 a0] w fun e w' => ∃ v0_ : Value, e = .returned (v0_) ∧ Kd.R Kd.string 9 w' w.heap.size (fun _ => True) v0_ r ∧ Below w.heap.size w w' := by
  induction k using Nat.strongRecOn with
  | _ k ih =>
  intro a0 r w h
  cases k with
  | zero => exact absurd h (by simp [spec_l3Contours.f])
  | succ k =>
  simp only [spec_l3Contours.f] at h
  have HB := Aside0.mk (Below.refl w.heap.size w)
  have H : (if a0 = 0 then (some (([(⟨#[]⟩ : ByteArray)] : List ByteArray))) else ((spec_l3Contours.f k (wrap64 (a0 - 1))).bind fun t111 => (spec_l3Contours.l0 k (([] : List ByteArray)) t111 0))) = some r := h
  clear h
  by_cases c2 : a0 = 0
  · rw [if_pos c2] at H
    have c2b0 : (a0 == 0) = true := beq_iff_eq.mpr c2
    have c2b1 : (a0 != 0) = false := bne_eq_false_iff_eq.mpr c2
    clear c2
    obtain ⟨y105, hy105⟩ : ∃ y_ : List ByteArray, y_ = (([(⟨#[]⟩ : ByteArray)] : List ByteArray)) := ⟨_, rfl⟩
    replace H : (some y105) = some r := by first | (rw [hy105]; with_reducible exact H) | (have H2_ := (Option.bind_some _ _).symm.trans H; rw [hy105]; with_reducible exact H2_) | (have H2_ := (Option.bind_some _ _).symm.trans H; with_reducible exact H2_) | with_reducible exact H | (rw [hy105]; exact H) | exact H
    have Ny105 := Aside0.mk hy105
    clear hy105
    obtain rfl := Option.some.inj H
    go_enter Tryd.func44, Tryd.ntmps44
    go_wp2_with (first | ((with_reducible refine gate_dst (N := 8) rfl ?_); refine Kd.R_lit Kd.string _ 9 ?hg (N := 8) ?hd (xs := ([(⟨#[]⟩ : ByteArray)] : List ByteArray)) (inner := [.string (⟨#[]⟩ : ByteArray)]) (ok := fun _ => True) (okp := fun _ => True) ?hr ?hp (fun _ hk => hk) trivial (Below.refl _ _) (Nat.le_refl _) (by simp) ?_; (case hd => rfl); (case hg => rfl); (case hr => first | (go_simp; done) | (go_simp; rfl)); (case hp => exact (Reps.one (show Kd.M Kd.string _ _ _ (⟨#[]⟩ : ByteArray) [.string (⟨#[]⟩ : ByteArray)] from rfl) (Reps.none _ _))); intro v106 w3 ho4 hb hg_ hnew_; clear hg_ hnew_; (first | rw [← Ny105.out] at ho4 | (simp only [Int.reduceToNat] at ho4; rw [← Ny105.out] at ho4)); have n0_ := Aside0.mk (Kd.R_lower ho4 (below_size (by repeat (first | (with_reducible first | exact HB.out | apply below_alloc | apply pw_below_drewN | apply below_drew1) | exact HB.out)))); have n1_ := Aside0.mk (below_step (by repeat (first | (with_reducible first | exact HB.out | apply below_alloc | apply pw_below_drewN | apply below_drew1) | exact HB.out)) hb); clear HB; have HO107 := n0_; have HB := n1_; clear n0_ n1_; clear hb ho4))
    go_ret
    exact ⟨_, by first | rfl | (simp [errW_none, errW_some] <;> rfl) | (simp [*, errW_none, errW_some] <;> rfl), by (with_reducible repeat (first | apply Kd.R_alloc | apply Kd.R_drewN | apply Kd.R_drew)); exact HO107.out, by repeat (first | (with_reducible first | exact HB.out | apply below_alloc | apply pw_below_drewN | apply below_drew1) | exact HB.out)⟩
  · rw [if_neg c2] at H
    have c2b0 : (a0 == 0) = false := beq_eq_false_iff_ne.mpr c2
    have c2b1 : (a0 != 0) = true := bne_iff_ne.mpr c2
    obtain ⟨y108, hy108⟩ : ∃ y_ : List ByteArray, y_ = (([] : List ByteArray)) := ⟨_, rfl⟩
    replace H : ((spec_l3Contours.f k (wrap64 (a0 - 1))).bind fun t111 => (spec_l3Contours.l0 k y108 t111 0)) = some r := by first | (rw [hy108]; with_reducible exact H) | (have H2_ := (Option.bind_some _ _).symm.trans H; rw [hy108]; with_reducible exact H2_) | (have H2_ := (Option.bind_some _ _).symm.trans H; with_reducible exact H2_) | with_reducible exact H | (rw [hy108]; exact H) | exact H
    have Ny108 := Aside0.mk hy108
    clear hy108
    replace H := Option.bind_eq_some_iff.mp H
    obtain ⟨t111, A50, H⟩ := H
    replace H : (spec_l3Contours.l0 k y108 t111 0) = some r := H
    have A5 := Aside0.mk A50
    clear A50
    have H' := Aside0.mk H
    clear H
    go_enter Tryd.func44, Tryd.ntmps44
    go_wp2_with (first | ((with_reducible refine gate_dst (N := 9) rfl ?_); refine Kd.R_lit Kd.string _ 9 ?hg (N := 9) ?hd (xs := ([] : List ByteArray)) (inner := []) (ok := fun _ => True) (okp := fun _ => True) ?hr ?hp (fun _ hk => hk) trivial (Below.refl _ _) (Nat.le_refl _) (by simp) ?_; (case hd => rfl); (case hg => rfl); (case hr => first | (go_simp; done) | (go_simp; rfl)); (case hp => exact (Reps.none _ _)); intro v109 w6 ho7 hb hg_ hnew_; clear hg_ hnew_; (first | rw [← Ny108.out] at ho7 | (simp only [Int.reduceToNat] at ho7; rw [← Ny108.out] at ho7)); have n0_ := Aside0.mk (Kd.R_lower ho7 (below_size (by repeat (first | (with_reducible first | exact HB.out | apply below_alloc | apply pw_below_drewN | apply below_drew1) | exact HB.out)))); have n1_ := Aside0.mk (below_step (by repeat (first | (with_reducible first | exact HB.out | apply below_alloc | apply pw_below_drewN | apply below_drew1) | exact HB.out)) hb); clear HB; have HO110 := n0_; have HB := n1_; clear n0_ n1_; clear hb ho7) | ((with_reducible refine gate_callee (f := 44) rfl ?_); refine goesL_ (some 12) rfl rfl Tryd.func44 (by kernel_rfl) rfl #[.int .i64 (wrap64 (a0 - 1))] rfl (by (try simp only [List.map_toArray, List.map_cons, List.map_nil]); first | done | rfl | (simp only [List.length_drop, List.length_take]; rfl)) ?_; (with_reducible refine (ih k (by omega) (wrap64 (a0 - 1)) t111 _ A5.out).mono ?_); rintro e w8 ⟨v112, rfl, ho0, hb⟩; refine ⟨_, rfl, ?_⟩; have n0_ := Aside0.mk (Kd.R_elder' (by (with_reducible repeat (first | apply Kd.R_alloc | apply Kd.R_drewN | apply Kd.R_drew)); exact HO110.out) (Kd.R_base ho0) hb); have n1_ := Aside0.mk (Kd.R_lower (Kd.R_new' ho0 (Kd.R_lt (by (with_reducible repeat (first | apply Kd.R_alloc | apply Kd.R_drewN | apply Kd.R_drew)); exact HO110.out))) (below_size (by repeat (first | (with_reducible first | exact HB.out | apply below_alloc | apply pw_below_drewN | apply below_drew1) | exact HB.out)))); have n2_ := Aside0.mk (below_step (by repeat (first | (with_reducible first | exact HB.out | apply below_alloc | apply pw_below_drewN | apply below_drew1) | exact HB.out)) hb); clear HO110; clear HB; have HO110 := n0_; have HO113 := n1_; have HB := n2_; clear n0_ n1_ n2_; (try clear hb); (try clear hb2); (try clear hk); (try clear hi); (try clear ho0)))
    go_loopg [3, 5] k (fun kq v3 v5 w' => ∃ (x3_1 : List ByteArray) (x5_1 : Int), v5 = .int .i64 x5_1 ∧ Aside0 (spec_l3Contours.l0 kq x3_1 t111 x5_1 = some r) ∧ Aside0 (kq ≤ k) ∧ Aside0 (Kd.R Kd.string 9 w' w.heap.size (fun k_ => some k_ ≠ (v112 : Value).ownBlock) v3 x3_1) ∧ Aside0 (Kd.R Kd.string 9 w' w.heap.size (fun k_ => some k_ ≠ (v3 : Value).ownBlock) v112 t111) ∧ Aside0 (Below w.heap.size w w'))
    case atStart => exact ⟨(y108), (0), (by first | rfl | (simp; done) | (simp [*]; done)), H', ⟨Nat.le_refl _⟩, ⟨by (with_reducible repeat (first | apply Kd.R_alloc | apply Kd.R_drewN | apply Kd.R_drew)); exact Kd.R_mono HO110.out (fun _ hk => hk.2)⟩, ⟨by (with_reducible repeat (first | apply Kd.R_alloc | apply Kd.R_drewN | apply Kd.R_drew)); exact Kd.R_mono HO113.out (fun _ hk => hk.2)⟩, ⟨by repeat (first | (with_reducible first | exact HB.out | apply below_alloc | apply pw_below_drewN | apply below_drew1) | exact HB.out)⟩⟩
    case round =>
      clear H'
      try clear c2
      try clear c2b0
      try clear c2b1
      try clear p2
      try clear c4
      try clear p6
      obtain ⟨x3_1, x5_1, rfl, HA, HK1, HO_3, HO_4, HB⟩ := hrel
      cases gk with
      | zero => exact absurd HA.out (by simp [spec_l3Contours.l0])
      | succ k1 =>
        have H := HA.out
        clear HA
        simp only [spec_l3Contours.l0] at H
        by_cases c9 : x5_1 < (t111.length : Int)
        · rw [if_pos c9] at H
          have c9b0 : decide (x5_1 < (t111.length : Int)) = true := decide_eq_true c9
          clear c9
          by_cases c10 : 0 ≤ x5_1
          · rw [if_pos c10] at H
            have c10b0 : decide (0 ≤ x5_1) = true := decide_eq_true c10
            clear c10
            by_cases c11 : (rdOf ByteArray.empty t111 x5_1).size + 1 ≤ 9223372036854775807
            · rw [if_pos c11] at H
              have c11b0 := eq_true c11
              have c11b1 : decide ((rdOf ByteArray.empty t111 x5_1).size + 1 ≤ 9223372036854775807) = true := decide_eq_true c11
              try have c11b2 : (9223372036854775807 < (rdOf ByteArray.empty t111 x5_1).size + 1) = False := eq_false (Nat.not_lt.2 c11)
              obtain ⟨y117, hy117⟩ : ∃ y_ : List ByteArray, y_ = (([(rdOf ByteArray.empty t111 x5_1) ++ (⟨#[117]⟩ : ByteArray), (rdOf ByteArray.empty t111 x5_1) ++ (⟨#[100]⟩ : ByteArray), (rdOf ByteArray.empty t111 x5_1) ++ (⟨#[115]⟩ : ByteArray)] : List ByteArray)) := ⟨_, rfl⟩
              replace H : (if x3_1.length + y117.length < 8796093022208 then (spec_l3Contours.l0 k1 (x3_1 ++ y117) t111 (wrap64 (x5_1 + 1))) else (none)) = some r := by first | (rw [hy117]; with_reducible exact H) | (have H2_ := (Option.bind_some _ _).symm.trans H; rw [hy117]; with_reducible exact H2_) | (have H2_ := (Option.bind_some _ _).symm.trans H; with_reducible exact H2_) | with_reducible exact H | (rw [hy117]; exact H) | exact H
              have Ny117 := Aside0.mk hy117
              clear hy117
              by_cases c12 : x3_1.length + y117.length < 8796093022208
              · rw [if_pos c12] at H
                have LMc12 := Aside0.mk c12
                clear c12
                obtain ⟨y120, hy120⟩ : ∃ y_ : List ByteArray, y_ = (x3_1 ++ y117) := ⟨_, rfl⟩
                replace H : (spec_l3Contours.l0 k1 y120 t111 (wrap64 (x5_1 + 1))) = some r := by first | (rw [hy120]; with_reducible exact H) | (have H2_ := (Option.bind_some _ _).symm.trans H; rw [hy120]; with_reducible exact H2_) | (have H2_ := (Option.bind_some _ _).symm.trans H; with_reducible exact H2_) | with_reducible exact H | (rw [hy120]; exact H) | exact H
                have Ny120 := Aside0.mk hy120
                clear hy120
                have H' := Aside0.mk H
                clear H
                obtain ⟨Ao13, co13, eo13⟩ := Kd.R_slice HO_4.out
                subst eo13
                try go_wp2
                have n0_ := Aside0.mk (Kd.R_drew HO_3.out)
                have n1_ := Aside0.mk (Kd.R_drew HO_4.out)
                have n2_ := Aside0.mk (below_drew1 HB.out)
                clear HO_3
                clear HO_4
                clear HB
                have HO_3 := n0_
                have HO_4 := n1_
                have HB := n2_
                clear n0_ n1_ n2_
                have p114 : 0 ≤ (x5_1 : Int) := of_decide_eq_true (by first | (with_reducible assumption) | assumption)
                have q114 : x5_1 < (t111.length : Int) := of_decide_eq_true (by first | (with_reducible assumption) | assumption)
                obtain ⟨ad114, e114, hx114_0⟩ := Kd.at_string (Kd.R_reads' HO_4.out).2.2 x5_1 p114 q114
                cases e114
                replace p114 := eq_true p114
                replace q114 := eq_true q114
                have p115 : 0 ≤ (x5_1 : Int) := of_decide_eq_true (by first | (with_reducible assumption) | assumption)
                have q115 : x5_1 < (t111.length : Int) := of_decide_eq_true (by first | (with_reducible assumption) | assumption)
                obtain ⟨ad115, e115, hx115_0⟩ := Kd.at_string (Kd.R_reads' HO_4.out).2.2 x5_1 p115 q115
                obtain rfl : ad114 = ad115 := (by injection e115)
                replace p115 := eq_true p115
                replace q115 := eq_true q115
                have p116 : 0 ≤ (x5_1 : Int) := of_decide_eq_true (by first | (with_reducible assumption) | assumption)
                have q116 : x5_1 < (t111.length : Int) := of_decide_eq_true (by first | (with_reducible assumption) | assumption)
                obtain ⟨ad116, e116, hx116_0⟩ := Kd.at_string (Kd.R_reads' HO_4.out).2.2 x5_1 p116 q116
                obtain rfl : ad114 = ad116 := (by injection e116)
                replace p116 := eq_true p116
                replace q116 := eq_true q116
                refine start_ (n := 19) (S := fun w' => w'.cell? (ad114.add (x5_1).toNat) = some (.string (rdOf ByteArray.empty t111 x5_1)) ∧ w'.cell? (ad114.add (x5_1).toNat) = some (.string (rdOf ByteArray.empty t111 x5_1)) ∧ w'.cell? (ad114.add (x5_1).toNat) = some (.string (rdOf ByteArray.empty t111 x5_1))) (ds := [17]) #[false, false, false, false, false, false, false, false, false, false, false, false, false, false, false, false, false, false, false] (by kernel_rfl) rfl rfl ⟨hx114_0, hx115_0, hx116_0⟩ (fun hHeld => ?_); refine with_tabW spec_l3Contours.tab8 spec_l3Contours.bits8 (fun HT_ HW_ => ?_)
                generalize wr.drew = w14 at HO_3 HO_4 HB hx114_0 hx115_0 hx116_0 hHeld ⊢
                refine pure_ (i := 0) (N := some 19) (v := ?_) (a' := ?_) #[true, false, false, false, false, false, false, false, false, false, false, false, false, false, false, false, false, false, false] rfl rfl (any_of HT_.out (by kernel_rfl)) (fun _ _ _ h => h) (Or.inl ⟨by rfl, ?_⟩) ?_ ?_
                rotate_left
                · intro w'
                  go_simp
                  with_reducible rfl
                rotate_left
                · simp only [Act.put, List.setIfInBounds_toArray, List.set_cons_zero, List.set_cons_succ, i64_w, i32_w]
                  rfl
                refine pure_ (i := 1) (N := some 20) (v := ?_) (a' := ?_) #[true, true, false, false, false, false, false, false, false, false, false, false, false, false, false, false, false, false, false] rfl rfl (any_of HT_.out (by kernel_rfl)) (fun _ _ _ h => h) (Or.inl ⟨by rfl, ?_⟩) ?_ ?_
                rotate_left
                · intro w'
                  go_simp
                  with_reducible rfl
                rotate_left
                · simp only [Act.put, List.setIfInBounds_toArray, List.set_cons_zero, List.set_cons_succ, i64_w, i32_w]
                  rfl
                refine pure_ (i := 2) (N := some 21) (v := ?_) (a' := ?_) #[true, true, true, false, false, false, false, false, false, false, false, false, false, false, false, false, false, false, false] rfl rfl (any_of HT_.out (by kernel_rfl)) (fun _ _ _ h => h) (Or.inl ⟨by rfl, ?_⟩) ?_ ?_
                rotate_left
                · intro w'
                  go_simp
                  with_reducible rfl
                rotate_left
                · simp only [Act.put, List.setIfInBounds_toArray, List.set_cons_zero, List.set_cons_succ, i64_w, i32_w]
                  rfl
                refine pure_ (i := 3) (N := some 22) (v := ?_) (a' := ?_) #[true, true, true, true, false, false, false, false, false, false, false, false, false, false, false, false, false, false, false] rfl rfl (any_of HT_.out (by kernel_rfl)) (fun _ _ _ h => h) (Or.inl ⟨by rfl, ?_⟩) ?_ ?_
                rotate_left
                · intro w'
                  go_simp
                  with_reducible rfl
                rotate_left
                · simp only [Act.put, List.setIfInBounds_toArray, List.set_cons_zero, List.set_cons_succ, i64_w, i32_w]
                  rfl
                refine pure_ (i := 6) (N := some 25) (v := ?_) (a' := ?_) #[true, true, true, true, false, false, true, false, false, false, false, false, false, false, false, false, false, false, false] rfl rfl (any_of HT_.out (by kernel_rfl)) (fun _ _ _ h => h) (Or.inl ⟨by rfl, ?_⟩) ?_ ?_
                rotate_left
                · intro w'
                  go_simp
                  with_reducible rfl
                rotate_left
                · simp only [Act.put, List.setIfInBounds_toArray, List.set_cons_zero, List.set_cons_succ, i64_w, i32_w]
                  rfl
                refine pure_ (i := 7) (N := some 26) (v := ?_) (a' := ?_) #[true, true, true, true, false, false, true, true, false, false, false, false, false, false, false, false, false, false, false] rfl rfl (any_of HT_.out (by kernel_rfl)) (fun _ _ _ h => h) (Or.inl ⟨by rfl, ?_⟩) ?_ ?_
                rotate_left
                · intro w'
                  go_simp
                  with_reducible rfl
                rotate_left
                · simp only [Act.put, List.setIfInBounds_toArray, List.set_cons_zero, List.set_cons_succ, i64_w, i32_w]
                  rfl
                refine pure_ (i := 8) (N := some 27) (v := ?_) (a' := ?_) #[true, true, true, true, false, false, true, true, true, false, false, false, false, false, false, false, false, false, false] rfl rfl (any_of HT_.out (by kernel_rfl)) (fun _ _ _ h => h) (Or.inl ⟨by rfl, ?_⟩) ?_ ?_
                rotate_left
                · intro w'
                  go_simp
                  with_reducible rfl
                rotate_left
                · simp only [Act.put, List.setIfInBounds_toArray, List.set_cons_zero, List.set_cons_succ, i64_w, i32_w]
                  rfl
                refine pure_ (i := 11) (N := some 30) (v := ?_) (a' := ?_) #[true, true, true, true, false, false, true, true, true, false, false, true, false, false, false, false, false, false, false] rfl rfl (any_of HT_.out (by kernel_rfl)) (fun _ _ _ h => h) (Or.inl ⟨by rfl, ?_⟩) ?_ ?_
                rotate_left
                · intro w'
                  go_simp
                  with_reducible rfl
                rotate_left
                · simp only [Act.put, List.setIfInBounds_toArray, List.set_cons_zero, List.set_cons_succ, i64_w, i32_w]
                  rfl
                refine pure_ (i := 12) (N := some 31) (v := ?_) (a' := ?_) #[true, true, true, true, false, false, true, true, true, false, false, true, true, false, false, false, false, false, false] rfl rfl (any_of HT_.out (by kernel_rfl)) (fun _ _ _ h => h) (Or.inl ⟨by rfl, ?_⟩) ?_ ?_
                rotate_left
                · intro w'
                  go_simp
                  with_reducible rfl
                rotate_left
                · simp only [Act.put, List.setIfInBounds_toArray, List.set_cons_zero, List.set_cons_succ, i64_w, i32_w]
                  rfl
                refine pure_ (i := 13) (N := some 32) (v := ?_) (a' := ?_) #[true, true, true, true, false, false, true, true, true, false, false, true, true, true, false, false, false, false, false] rfl rfl (any_of HT_.out (by kernel_rfl)) (fun _ _ _ h => h) (Or.inl ⟨by rfl, ?_⟩) ?_ ?_
                rotate_left
                · intro w'
                  go_simp
                  with_reducible rfl
                rotate_left
                · simp only [Act.put, List.setIfInBounds_toArray, List.set_cons_zero, List.set_cons_succ, i64_w, i32_w]
                  rfl
                refine take_ (i := 4) (N := some 23) (v := ?_) (a' := ?_) #[true, true, true, true, true, false, true, true, true, false, false, true, true, true, false, false, false, false, false] rfl rfl (take_ofW HT_.out HW_.out (by kernel_rfl)) (fun _ _ _ h => h) (Or.inl ⟨by rfl, ?_⟩) hHeld ?_ ?_
                rotate_left
                · rintro w' ⟨s0, s1, s2⟩
                  go_simp
                  with_reducible rfl
                rotate_left
                · simp only [Act.put, List.setIfInBounds_toArray, List.set_cons_zero, List.set_cons_succ, i64_w, i32_w]
                  rfl
                refine pure_ (i := 5) (N := some 24) (v := ?_) (a' := ?_) #[true, true, true, true, true, true, true, true, true, false, false, true, true, true, false, false, false, false, false] rfl rfl (any_of HT_.out (by kernel_rfl)) (fun _ _ _ h => h) (Or.inl ⟨by rfl, ?_⟩) ?_ ?_
                rotate_left
                · intro w'
                  go_simp
                  with_reducible rfl
                rotate_left
                · simp only [Act.put, List.setIfInBounds_toArray, List.set_cons_zero, List.set_cons_succ, i64_w, i32_w]
                  rfl
                refine take_ (i := 9) (N := some 28) (v := ?_) (a' := ?_) #[true, true, true, true, true, true, true, true, true, true, false, true, true, true, false, false, false, false, false] rfl rfl (take_ofW HT_.out HW_.out (by kernel_rfl)) (fun _ _ _ h => h) (Or.inl ⟨by rfl, ?_⟩) hHeld ?_ ?_
                rotate_left
                · rintro w' ⟨s0, s1, s2⟩
                  go_simp
                  with_reducible rfl
                rotate_left
                · simp only [Act.put, List.setIfInBounds_toArray, List.set_cons_zero, List.set_cons_succ, i64_w, i32_w]
                  rfl
                refine pure_ (i := 10) (N := some 29) (v := ?_) (a' := ?_) #[true, true, true, true, true, true, true, true, true, true, true, true, true, true, false, false, false, false, false] rfl rfl (any_of HT_.out (by kernel_rfl)) (fun _ _ _ h => h) (Or.inl ⟨by rfl, ?_⟩) ?_ ?_
                rotate_left
                · intro w'
                  go_simp
                  with_reducible rfl
                rotate_left
                · simp only [Act.put, List.setIfInBounds_toArray, List.set_cons_zero, List.set_cons_succ, i64_w, i32_w]
                  rfl
                refine take_ (i := 14) (N := some 33) (v := ?_) (a' := ?_) #[true, true, true, true, true, true, true, true, true, true, true, true, true, true, true, false, false, false, false] rfl rfl (take_ofW HT_.out HW_.out (by kernel_rfl)) (fun _ _ _ h => h) (Or.inl ⟨by rfl, ?_⟩) hHeld ?_ ?_
                rotate_left
                · rintro w' ⟨s0, s1, s2⟩
                  go_simp
                  with_reducible rfl
                rotate_left
                · simp only [Act.put, List.setIfInBounds_toArray, List.set_cons_zero, List.set_cons_succ, i64_w, i32_w]
                  rfl
                refine pure_ (i := 15) (N := some 34) (v := ?_) (a' := ?_) #[true, true, true, true, true, true, true, true, true, true, true, true, true, true, true, true, false, false, false] rfl rfl (any_of HT_.out (by kernel_rfl)) (fun _ _ _ h => h) (Or.inl ⟨by rfl, ?_⟩) ?_ ?_
                rotate_left
                · intro w'
                  go_simp
                  with_reducible rfl
                rotate_left
                · simp only [Act.put, List.setIfInBounds_toArray, List.set_cons_zero, List.set_cons_succ, i64_w, i32_w]
                  rfl
                refine one_ (i := 16) (N := some 35) #[true, true, true, true, true, true, true, true, true, true, true, true, true, true, true, true, true, false, false] rfl rfl (one_of HT_.out (by kernel_rfl)) (by decide) (fun K hK => ?_)
                refine Kd.R_lit_step Kd.string _ 9 ?hg (N := 35) ?hd (xs := ([(rdOf ByteArray.empty t111 x5_1) ++ (⟨#[117]⟩ : ByteArray), (rdOf ByteArray.empty t111 x5_1) ++ (⟨#[100]⟩ : ByteArray), (rdOf ByteArray.empty t111 x5_1) ++ (⟨#[115]⟩ : ByteArray)] : List ByteArray)) (inner := [.string ((rdOf ByteArray.empty t111 x5_1) ++ (⟨#[117]⟩ : ByteArray)), .string ((rdOf ByteArray.empty t111 x5_1) ++ (⟨#[100]⟩ : ByteArray)), .string ((rdOf ByteArray.empty t111 x5_1) ++ (⟨#[115]⟩ : ByteArray))]) (ok := fun _ => True) (okp := fun _ => True) ?hr ?hp (fun _ hk => hk) trivial (Below.refl _ _) (Nat.le_refl _) (by simp) ?_; (case hd => rfl); (case hg => rfl); (case hr => first | (go_simp; done) | (go_simp; rfl)); (case hp => exact (Reps.one (show Kd.M Kd.string _ _ _ ((rdOf ByteArray.empty t111 x5_1) ++ (⟨#[117]⟩ : ByteArray)) [.string ((rdOf ByteArray.empty t111 x5_1) ++ (⟨#[117]⟩ : ByteArray))] from rfl) (Reps.one (show Kd.M Kd.string _ _ _ ((rdOf ByteArray.empty t111 x5_1) ++ (⟨#[100]⟩ : ByteArray)) [.string ((rdOf ByteArray.empty t111 x5_1) ++ (⟨#[100]⟩ : ByteArray))] from rfl) (Reps.one (show Kd.M Kd.string _ _ _ ((rdOf ByteArray.empty t111 x5_1) ++ (⟨#[115]⟩ : ByteArray)) [.string ((rdOf ByteArray.empty t111 x5_1) ++ (⟨#[115]⟩ : ByteArray))] from rfl) (Reps.none _ _)))))
                intro v118 w15 ho16 hb hg_ hnew_
                have HS0_ := (hb.cell (World.block_lt_of_cell? _ _ (hHeld.1))).trans (hHeld.1)
                have HS1_ := (hb.cell (World.block_lt_of_cell? _ _ (hHeld.2.1))).trans (hHeld.2.1)
                have HS2_ := (hb.cell (World.block_lt_of_cell? _ _ (hHeld.2.2))).trans (hHeld.2.2)
                clear hg_ hnew_
                (first | rw [← Ny117.out] at ho16 | (simp only [Int.reduceToNat] at ho16; rw [← Ny117.out] at ho16))
                have n0_ := Aside0.mk (Kd.R_elder' (by (with_reducible repeat (first | apply Kd.R_alloc | apply Kd.R_drewN | apply Kd.R_drew)); exact HO_3.out) (Kd.R_base ho16) hb)
                have n1_ := Aside0.mk (Kd.R_elder' (by (with_reducible repeat (first | apply Kd.R_alloc | apply Kd.R_drewN | apply Kd.R_drew)); exact HO_4.out) (Kd.R_base ho16) hb)
                have n2_ := Aside0.mk (Kd.R_lower (Kd.R_new' (Kd.R_new' ho16 (Kd.R_lt (by (with_reducible repeat (first | apply Kd.R_alloc | apply Kd.R_drewN | apply Kd.R_drew)); exact HO_3.out))) (Kd.R_lt (by (with_reducible repeat (first | apply Kd.R_alloc | apply Kd.R_drewN | apply Kd.R_drew)); exact HO_4.out))) (below_size (by repeat (first | (with_reducible first | exact HB.out | apply below_alloc | apply pw_below_drewN | apply below_drew1) | exact HB.out))))
                have n3_ := Aside0.mk (below_step (by repeat (first | (with_reducible first | exact HB.out | apply below_alloc | apply pw_below_drewN | apply below_drew1) | exact HB.out)) hb)
                clear HO_3
                clear HO_4
                clear HB
                have HO_3 := n0_
                have HO_4 := n1_
                have HO119 := n2_
                have HB := n3_
                clear n0_ n1_ n2_ n3_
                clear hb ho16
                obtain ⟨Ao18, co18, eo18⟩ := Kd.R_slice HO119.out
                (first | subst eo18 | (injection eo18 with f1_ f2_ f3_; have f4_ := f1_.symm; have f5_ := f3_.symm; clear f1_ f2_ f3_; subst f4_; subst f5_))
                refine hK.out _ _ ⟨HS0_, HS1_, HS2_⟩ (fun hHeld => ?_)
                clear hK K
                refine norm_ (a' := ?_) ?_ ?_
                rotate_left
                · show Act.put _ (some 35) _ = _
                  simp only [Act.put, List.setIfInBounds_toArray, List.set_cons_zero, List.set_cons_succ, i64_w, i32_w]
                  rfl
                refine last_ (i := 17) (N := some 36) #[true, true, true, true, true, true, true, true, true, true, true, true, true, true, true, true, true, true, false] rfl rfl (one_of HT_.out (by kernel_rfl)) (by decide) (fun K hK => ?_)
                refine Kd.R_append_rows_step Kd.string (w0 := w) w.heap.size (by rfl) (.tmp 19) (.tmp 35) 49 9 (.string ⟨#[]⟩) 16 rfl Tryd.underlying49 info9 rfl (by decide) (by omega) u3 x3_1 y117 _ _ _ (fun k_ => some k_ ≠ (.slice (some ad114) t111.length co13 : Value).ownBlock ∧ some k_ ≠ (.slice Ao18 y117.length co18 : Value).ownBlock) (fun _ => False) rfl rfl ?aO ?aR (fun _ _ h => h) (fun _ h => h.elim) ?aF ?aB ?aS ?aL ?_
                (case aR => repeat (first | exact (Kd.R_reads' HO119.out).2.2 | (with_reducible refine Kd.C_alloc ?_ _) | (with_reducible refine Kd.C_drewN ?_ _) | (with_reducible refine Kd.C_drew ?_)))
                (case aB => exact (by repeat (first | (with_reducible first | exact HB.out | apply below_alloc | apply pw_below_drewN | apply below_drew1) | exact HB.out)))
                (case aF => exact (fun k_ hk => ⟨Kd.fresh' (Kd.R_lt (by (with_reducible repeat (first | apply Kd.R_alloc | apply Kd.R_drewN | apply Kd.R_drew)); exact HO_4.out)) k_ hk, Kd.fresh' (Kd.R_lt (by (with_reducible repeat (first | apply Kd.R_alloc | apply Kd.R_drewN | apply Kd.R_drew)); exact HO119.out)) k_ hk⟩))
                (case aO => exact (by (with_reducible repeat (first | apply Kd.R_alloc | apply Kd.R_drewN | apply Kd.R_drew)); exact HO_3.out))
                (case aS => exact (below_size (by repeat (first | (with_reducible first | exact HB.out | apply below_alloc | apply pw_below_drewN | apply below_drew1) | exact HB.out))))
                (case aL => have := LMc12.out; omega)
                intro v121 w17 ho hb hg hat
                rw [← Ny120.out] at ho
                have n0_ := Aside0.mk (Kd.R_after (ok := (fun k_ => some k_ ≠ (.slice Ao18 y117.length co18 : Value).ownBlock)) (by (with_reducible repeat (first | apply Kd.R_alloc | apply Kd.R_drewN | apply Kd.R_drew)); exact Kd.R_mono HO_4.out (fun _ hk => ⟨hk.2, hk.1⟩)) hg hat)
                have n1_ := Aside0.mk (Kd.R_after (ok := (fun k_ => some k_ ≠ (.slice (some ad114) t111.length co13 : Value).ownBlock)) (by (with_reducible repeat (first | apply Kd.R_alloc | apply Kd.R_drewN | apply Kd.R_drew)); exact Kd.R_mono HO119.out (fun _ hk => ⟨hk.2, hk.1.2⟩)) hg hat)
                have n2_ := Aside0.mk (hb)
                have n3_ := Aside0.mk (ho)
                clear HO_4
                clear HO119
                clear HB
                clear HO_3
                have HO_4 := n0_
                have HO119 := n1_
                have HB := n2_
                have HO122 := n3_
                clear n0_ n1_ n2_ n3_
                clear ho hb hg hat
                refine hK.out _ _ ?_
                clear hK K
                refine norm_ (a' := ?_) ?_ ?_
                rotate_left
                · show Act.put _ (some 36) _ = _
                  simp only [Act.put, List.setIfInBounds_toArray, List.set_cons_zero, List.set_cons_succ, i64_w, i32_w]
                  rfl
                refine pure_ (i := 18) (N := some 3) (v := ?_) (a' := ?_) #[true, true, true, true, true, true, true, true, true, true, true, true, true, true, true, true, true, true, true] rfl rfl (any_of HT_.out (by kernel_rfl)) (fun _ _ _ h => h) (Or.inl ⟨by rfl, ?_⟩) ?_ ?_
                rotate_left
                · intro w'
                  go_simp
                  with_reducible rfl
                rotate_left
                · simp only [Act.put, List.setIfInBounds_toArray, List.set_cons_zero, List.set_cons_succ, i64_w, i32_w]
                  rfl
                refine done_ (done_of HT_.out (by kernel_rfl)) ?_
                try go_wp2
                go_roundg k1
                case measure => have := HK1.out; omega
                case rel => exact ⟨(y120), (wrap64 (x5_1 + 1)), (by first | rfl | (simp; done) | (simp [*]; done)), H', ⟨by have := HK1.out; omega⟩, ⟨by (with_reducible repeat (first | apply Kd.R_alloc | apply Kd.R_drewN | apply Kd.R_drew)); exact Kd.R_mono HO122.out (fun _ hk => hk.1)⟩, ⟨by (with_reducible repeat (first | apply Kd.R_alloc | apply Kd.R_drewN | apply Kd.R_drew)); exact Kd.R_mono HO_4.out (fun _ hk => hk.2)⟩, ⟨by repeat (first | (with_reducible first | exact HB.out | apply below_alloc | apply pw_below_drewN | apply below_drew1) | exact HB.out)⟩⟩
              · rw [if_neg c12] at H
                exact absurd H (by simp)
            · rw [if_neg c11] at H
              exact absurd H (by simp)
          · rw [if_neg c10] at H
            exact absurd H (by simp)
        · rw [if_neg c9] at H
          have c9b0 : decide (x5_1 < (t111.length : Int)) = false := decide_eq_false c9
          clear c9
          obtain rfl := Option.some.inj H
          obtain ⟨Ao19, co19, eo19⟩ := Kd.R_slice HO_4.out
          subst eo19
          go_wp2
          go_ret
          exact ⟨_, by first | rfl | (simp [errW_none, errW_some] <;> rfl) | (simp [*, errW_none, errW_some] <;> rfl), by (with_reducible repeat (first | apply Kd.R_alloc | apply Kd.R_drewN | apply Kd.R_drew)); exact Kd.R_mono HO_3.out (fun _ hk => trivial), by repeat (first | (with_reducible first | exact HB.out | apply below_alloc | apply pw_below_drewN | apply below_drew1) | exact HB.out)⟩

/-! ### spec_NeumeContour: function 30 -/
mutual
def spec_NeumeContour.l0 : Nat → ByteArray → Int → Option (ByteArray × Bool)
  | 0, _, _ => none
  | k + 1, x0, x4 => if x4 < 4 then ((spec_l3Contours.f k x4).bind fun t123 => (spec_NeumeContour.l1 k x0 x4 t123 0)) else (some ((⟨#[]⟩ : ByteArray), false))
def spec_NeumeContour.l1 : Nat → ByteArray → Int → List ByteArray → Int → Option (ByteArray × Bool)
  | 0, _, _, _, _ => none
  | k + 1, x0, x4, x5, x6 => if x6 < (x5.length : Int) then (if 0 ≤ x6 then ((spec_NeumeName.f k (rdOf ByteArray.empty x5 x6)).bind fun t127 => (if t127.toList = x0.toList then (some (rdOf ByteArray.empty x5 x6, true)) else (spec_NeumeContour.l1 k x0 x4 x5 (wrap64 (x6 + 1))))) else (none)) else (spec_NeumeContour.l0 k x0 (wrap64 (x4 + 1)))
end
def spec_NeumeContour.f (k : Nat) (a0 : ByteArray) : Option (ByteArray × Bool) := spec_NeumeContour.l0 k a0 0
theorem spec_NeumeContour.mono_l : ∀ k, (∀ y0 y1, LeO (spec_NeumeContour.l0 k y0 y1) (spec_NeumeContour.l0 (k + 1) y0 y1)) ∧ (∀ y0 y1 y2 y3, LeO (spec_NeumeContour.l1 k y0 y1 y2 y3) (spec_NeumeContour.l1 (k + 1) y0 y1 y2 y3))
  | 0 => ⟨fun _ _ r h => by simp [spec_NeumeContour.l0] at h, fun _ _ _ _ r h => by simp [spec_NeumeContour.l1] at h⟩
  | k + 1 => by
    obtain ⟨ih0, ih1⟩ := spec_NeumeContour.mono_l k
    refine ⟨?_, ?_⟩
    · intro y0 y1
      unfold spec_NeumeContour.l0
      repeat' first
      | (with_reducible exact ih0 _ _)
      | (with_reducible exact ih1 _ _ _ _)
      | (with_reducible exact spec_NeumeName.mono _ _)
      | (with_reducible exact spec_l3Contours.mono _ _)
      | (with_reducible exact LeO.refl _)
      | (with_reducible exact LeO.none _)
      | (with_reducible refine LeO.ite ?_ ?_)
      | (with_reducible refine LeO.bind ?_ (fun _ => ?_))
      | exact ih0 _ _
      | exact ih1 _ _ _ _
      | exact spec_NeumeName.mono _ _
      | exact spec_l3Contours.mono _ _
      | exact LeO.none _
      | refine LeO.ite ?_ ?_
      | refine LeO.bind ?_ (fun _ => ?_)
    · intro y0 y1 y2 y3
      unfold spec_NeumeContour.l1
      repeat' first
      | (with_reducible exact ih0 _ _)
      | (with_reducible exact ih1 _ _ _ _)
      | (with_reducible exact spec_NeumeName.mono _ _)
      | (with_reducible exact spec_l3Contours.mono _ _)
      | (with_reducible exact LeO.refl _)
      | (with_reducible exact LeO.none _)
      | (with_reducible refine LeO.ite ?_ ?_)
      | (with_reducible refine LeO.bind ?_ (fun _ => ?_))
      | exact ih0 _ _
      | exact ih1 _ _ _ _
      | exact spec_NeumeName.mono _ _
      | exact spec_l3Contours.mono _ _
      | exact LeO.none _
      | refine LeO.ite ?_ ?_
      | refine LeO.bind ?_ (fun _ => ?_)
theorem spec_NeumeContour.mono : ∀ a0 k, LeO (spec_NeumeContour.f k a0) (spec_NeumeContour.f (k + 1) a0) := by
  intro a0 k
  obtain ⟨ih0, ih1⟩ := spec_NeumeContour.mono_l k
  unfold spec_NeumeContour.f
  repeat' first
      | (with_reducible exact ih0 _ _)
      | (with_reducible exact ih1 _ _ _ _)
      | (with_reducible exact spec_NeumeName.mono _ _)
      | (with_reducible exact spec_l3Contours.mono _ _)
      | (with_reducible exact LeO.refl _)
      | (with_reducible exact LeO.none _)
      | (with_reducible refine LeO.ite ?_ ?_)
      | (with_reducible refine LeO.bind ?_ (fun _ => ?_))
      | exact ih0 _ _
      | exact ih1 _ _ _ _
      | exact spec_NeumeName.mono _ _
      | exact spec_l3Contours.mono _ _
      | exact LeO.none _
      | refine LeO.ite ?_ ?_
      | refine LeO.bind ?_ (fun _ => ?_)
set_option maxHeartbeats 8000000 in
set_option maxRecDepth 100000 in
theorem spec_NeumeContour.calls (k : Nat) (a0 : ByteArray) (r1 : ByteArray) (r2 : Bool) (w : World) (h : spec_NeumeContour.f k a0 = some (r1, r2)) :
    Calls Tryd.prog 30 #[.string a0] w fun e w' => e = .returned (.tuple #[.string r1, .bool r2]) ∧ Below w.heap.size w w' := by
  have HB := Aside0.mk (Below.refl w.heap.size w)
  have H : (spec_NeumeContour.l0 k a0 0) = some (r1, r2) := h
  clear h
  have H' := Aside0.mk H
  clear H
  go_enter Tryd.func30, Tryd.ntmps30
  go_wp2
  go_loopg [4] k (fun kq v4 w' => ∃ (x4_1 : Int), v4 = .int .i64 x4_1 ∧ Aside0 (spec_NeumeContour.l0 kq a0 x4_1 = some (r1, r2)) ∧ Aside0 (kq ≤ k) ∧ Aside0 (Below w.heap.size w w'))
  case atStart => exact ⟨(0), (by first | rfl | (simp; done) | (simp [*]; done)), H', ⟨Nat.le_refl _⟩, ⟨by repeat (first | (with_reducible first | exact HB.out | apply below_alloc | apply pw_below_drewN | apply below_drew1) | exact HB.out)⟩⟩
  case round =>
    clear H'
    obtain ⟨x4_1, rfl, HA, HK1, HB⟩ := hrel
    cases gk with
    | zero => exact absurd HA.out (by simp [spec_NeumeContour.l0])
    | succ k1 =>
      have H := HA.out
      clear HA
      simp only [spec_NeumeContour.l0] at H
      by_cases c2 : x4_1 < 4
      · rw [if_pos c2] at H
        have c2b0 : decide (x4_1 < 4) = true := decide_eq_true c2
        clear c2
        replace H := Option.bind_eq_some_iff.mp H
        obtain ⟨t123, A30, H⟩ := H
        replace H : (spec_NeumeContour.l1 k1 a0 x4_1 t123 0) = some (r1, r2) := H
        have A3 := Aside0.mk A30
        clear A30
        have H' := Aside0.mk H
        clear H
        go_wp2_with (first | ((with_reducible refine gate_callee (f := 44) rfl ?_); refine goesL_ (some 12) rfl rfl Tryd.func44 (by kernel_rfl) rfl #[.int .i64 x4_1] rfl (by (try simp only [List.map_toArray, List.map_cons, List.map_nil]); first | done | rfl | (simp only [List.length_drop, List.length_take]; rfl)) ?_; (with_reducible refine (spec_l3Contours.calls k1 x4_1 t123 _ A3.out).mono ?_); rintro e w4 ⟨v124, rfl, ho0, hb⟩; refine ⟨_, rfl, ?_⟩; have n0_ := Aside0.mk (Kd.R_lower ho0 (below_size (by repeat (first | (with_reducible first | exact HB.out | apply below_alloc | apply pw_below_drewN | apply below_drew1) | exact HB.out)))); have n1_ := Aside0.mk (below_step (by repeat (first | (with_reducible first | exact HB.out | apply below_alloc | apply pw_below_drewN | apply below_drew1) | exact HB.out)) hb); clear HB; have HO125 := n0_; have HB := n1_; clear n0_ n1_; (try clear hb); (try clear hb2); (try clear hk); (try clear hi); (try clear ho0)))
        go_loopg [6] k1 (fun kq v6 w' => ∃ (x6_2 : Int), v6 = .int .i64 x6_2 ∧ Aside0 (spec_NeumeContour.l1 kq a0 x4_1 t123 x6_2 = some (r1, r2)) ∧ Aside0 (kq ≤ k1) ∧ Aside0 (Kd.R Kd.string 9 w' w.heap.size (fun _ => True) v124 t123) ∧ Aside0 (Below w.heap.size w w'))
        case atStart => exact ⟨(0), (by first | rfl | (simp; done) | (simp [*]; done)), H', ⟨Nat.le_refl _⟩, ⟨by (with_reducible repeat (first | apply Kd.R_alloc | apply Kd.R_drewN | apply Kd.R_drew)); exact HO125.out⟩, ⟨by repeat (first | (with_reducible first | exact HB.out | apply below_alloc | apply pw_below_drewN | apply below_drew1) | exact HB.out)⟩⟩
        case round =>
          clear H'
          try clear c2
          try clear c2b0
          try clear p2
          try clear c3
          try clear c4
          obtain ⟨x6_2, rfl, HA, HK2, HO_5, HB⟩ := hrel
          cases gk with
          | zero => exact absurd HA.out (by simp [spec_NeumeContour.l1])
          | succ k2 =>
            have H := HA.out
            clear HA
            simp only [spec_NeumeContour.l1] at H
            by_cases c5 : x6_2 < (t123.length : Int)
            · rw [if_pos c5] at H
              have c5b0 : decide (x6_2 < (t123.length : Int)) = true := decide_eq_true c5
              clear c5
              by_cases c6 : 0 ≤ x6_2
              · rw [if_pos c6] at H
                have c6b0 : decide (0 ≤ x6_2) = true := decide_eq_true c6
                clear c6
                replace H := Option.bind_eq_some_iff.mp H
                obtain ⟨t127, A70, H⟩ := H
                replace H : (if t127.toList = a0.toList then (some (rdOf ByteArray.empty t123 x6_2, true)) else (spec_NeumeContour.l1 k2 a0 x4_1 t123 (wrap64 (x6_2 + 1)))) = some (r1, r2) := H
                have A7 := Aside0.mk A70
                clear A70
                by_cases c8 : t127.toList = a0.toList
                · rw [if_pos c8] at H
                  have c8b0 : (t127.toList == a0.toList) = true := beq_iff_eq.mpr c8
                  have c8b1 : (t127.toList != a0.toList) = false := bne_eq_false_iff_eq.mpr c8
                  clear c8
                  simp only [Option.some.injEq, Prod.mk.injEq] at H
                  obtain ⟨rfl, rfl⟩ := H
                  obtain ⟨Ao9, co9, eo9⟩ := Kd.R_slice HO_5.out
                  subst eo9
                  have p126 : 0 ≤ (x6_2 : Int) := of_decide_eq_true (by first | (with_reducible assumption) | assumption)
                  have q126 : x6_2 < (t123.length : Int) := of_decide_eq_true (by first | (with_reducible assumption) | assumption)
                  obtain ⟨ad126, e126, hx126_0⟩ := Kd.at_string (Kd.R_reads' HO_5.out).2.2 x6_2 p126 q126
                  cases e126
                  replace p126 := eq_true p126
                  replace q126 := eq_true q126
                  go_wp2_with (first | ((with_reducible refine gate_callee (f := 17) rfl ?_); refine goesL_ (some 23) rfl rfl Tryd.func17 (by kernel_rfl) rfl #[.string (rdOf ByteArray.empty t123 x6_2)] rfl (by (try simp only [List.map_toArray, List.map_cons, List.map_nil]); first | done | rfl | (simp only [List.length_drop, List.length_take]; rfl)) ?_; (with_reducible refine (spec_NeumeName.calls k2 (rdOf ByteArray.empty t123 x6_2) t127 _ A7.out).mono ?_); rintro e w' ⟨rfl, ⟨nd, rfl⟩⟩; refine ⟨_, rfl, ?_⟩; have p128 : 0 ≤ (x6_2 : Int) := of_decide_eq_true (by first | (with_reducible assumption) | assumption); have q128 : x6_2 < (t123.length : Int) := of_decide_eq_true (by first | (with_reducible assumption) | assumption); obtain ⟨ad128, e128, hx128_0⟩ := Kd.at_string (Kd.R_reads' HO_5.out).2.2 x6_2 p128 q128; obtain rfl : ad126 = ad128 := (by injection e128); replace p128 := eq_true p128; replace q128 := eq_true q128))
                  go_ret2
                  exact ⟨by first | rfl | (simp [errW_none, errW_some] <;> rfl) | (simp [*, errW_none, errW_some] <;> rfl), by repeat (first | (with_reducible first | exact HB.out | apply below_alloc | apply pw_below_drewN | apply below_drew1) | exact HB.out)⟩
                · rw [if_neg c8] at H
                  have c8b0 : (t127.toList == a0.toList) = false := beq_eq_false_iff_ne.mpr c8
                  have c8b1 : (t127.toList != a0.toList) = true := bne_iff_ne.mpr c8
                  have H' := Aside0.mk H
                  clear H
                  obtain ⟨Ao10, co10, eo10⟩ := Kd.R_slice HO_5.out
                  subst eo10
                  have p126 : 0 ≤ (x6_2 : Int) := of_decide_eq_true (by first | (with_reducible assumption) | assumption)
                  have q126 : x6_2 < (t123.length : Int) := of_decide_eq_true (by first | (with_reducible assumption) | assumption)
                  obtain ⟨ad126, e126, hx126_0⟩ := Kd.at_string (Kd.R_reads' HO_5.out).2.2 x6_2 p126 q126
                  cases e126
                  replace p126 := eq_true p126
                  replace q126 := eq_true q126
                  go_wp2_with (first | ((with_reducible refine gate_callee (f := 17) rfl ?_); refine goesL_ (some 23) rfl rfl Tryd.func17 (by kernel_rfl) rfl #[.string (rdOf ByteArray.empty t123 x6_2)] rfl (by (try simp only [List.map_toArray, List.map_cons, List.map_nil]); first | done | rfl | (simp only [List.length_drop, List.length_take]; rfl)) ?_; (with_reducible refine (spec_NeumeName.calls k2 (rdOf ByteArray.empty t123 x6_2) t127 _ A7.out).mono ?_); rintro e w' ⟨rfl, ⟨nd, rfl⟩⟩; refine ⟨_, rfl, ?_⟩))
                  go_roundg k2
                  case measure => have := HK1.out; have := HK2.out; omega
                  case rel => exact ⟨(wrap64 (x6_2 + 1)), (by first | rfl | (simp; done) | (simp [*]; done)), H', ⟨by have := HK1.out; have := HK2.out; omega⟩, ⟨by (with_reducible repeat (first | apply Kd.R_alloc | apply Kd.R_drewN | apply Kd.R_drew)); exact HO_5.out⟩, ⟨by repeat (first | (with_reducible first | exact HB.out | apply below_alloc | apply pw_below_drewN | apply below_drew1) | exact HB.out)⟩⟩
              · rw [if_neg c6] at H
                exact absurd H (by simp)
            · rw [if_neg c5] at H
              have c5b0 : decide (x6_2 < (t123.length : Int)) = false := decide_eq_false c5
              clear c5
              have H' := Aside0.mk H
              clear H
              obtain ⟨Ao11, co11, eo11⟩ := Kd.R_slice HO_5.out
              subst eo11
              go_wp2
              go_roundg k2
              case measure => have := HK1.out; have := HK2.out; omega
              case rel => exact ⟨(wrap64 (x4_1 + 1)), (by first | rfl | (simp; done) | (simp [*]; done)), H', ⟨by have := HK1.out; have := HK2.out; omega⟩, ⟨by repeat (first | (with_reducible first | exact HB.out | apply below_alloc | apply pw_below_drewN | apply below_drew1) | exact HB.out)⟩⟩
      · rw [if_neg c2] at H
        have c2b0 : decide (x4_1 < 4) = false := decide_eq_false c2
        clear c2
        simp only [Option.some.injEq, Prod.mk.injEq] at H
        obtain ⟨rfl, rfl⟩ := H
        go_wp2
        go_ret2
        exact ⟨by first | rfl | (simp [errW_none, errW_some] <;> rfl) | (simp [*, errW_none, errW_some] <;> rfl), by repeat (first | (with_reducible first | exact HB.out | apply below_alloc | apply pw_below_drewN | apply below_drew1) | exact HB.out)⟩

/-! ### strings_CutPrefix: function 45 -/
/-- strings.CutPrefix. -/
def strings_CutPrefix.f (a0 a1 : ByteArray) : Option (ByteArray × Bool) := some (⟨(Lib.trimPrefix a0.data.toList a1.data.toList).toArray⟩, Lib.hasPrefix a0.data.toList a1.data.toList)
theorem strings_CutPrefix.calls (a0 a1 : ByteArray) (r1 : ByteArray) (r2 : Bool) (w : World) (h : strings_CutPrefix.f a0 a1 = some (r1, r2)) :
    Calls Tryd.prog 45 #[.string a0, .string a1] w fun e w' => e = .returned (.tuple #[.string r1, .bool r2]) ∧ Below w.heap.size w w' := by
  have e := Option.some.inj h
  simp only [Prod.mk.injEq] at e
  obtain ⟨rfl, rfl⟩ := e
  refine (Any.strings_CutPrefix Tryd.lays103 a0 a1 w).mono ?_
  rintro e w' ⟨rfl, rfl⟩
  exact ⟨rfl, Below.refl _ _⟩

/-! ### impl_NeumeContour: function 31 -/
/-- The contour of a name, out of rows. -/
def ncFrom (a0 : ByteArray) : List (List UInt8 × ByteArray) → Option ByteArray
  | [] => none
  | r :: l => if (r.1 == a0.toList) = true then some r.2 else ncFrom a0 l
def ncs : List (List UInt8 × ByteArray) := [([112, 117, 110, 99, 116, 117, 109], ⟨#[]⟩), ([112, 101, 115], ⟨#[117]⟩), ([99, 108, 105, 118, 105, 115], ⟨#[100]⟩), ([116, 111, 114, 99, 117, 108, 117, 115], ⟨#[117, 100]⟩), ([112, 111, 114, 114, 101, 99, 116, 117, 115], ⟨#[100, 117]⟩), ([115, 99, 97, 110, 100, 105, 99, 117, 115], ⟨#[117, 117]⟩), ([99, 108, 105, 109, 97, 99, 117, 115], ⟨#[100, 100]⟩)]
def impl_NeumeContour.f (a0 : ByteArray) : Option (ByteArray × Bool) :=
  if a0.toList.isEmpty = true then some (⟨#[]⟩, false) else match ncFrom a0 ncs with
    | some c => some (c, true)
    | none => (strings_CutPrefix.f a0 ⟨#[103, 114, 111, 117, 112, 45]⟩).bind fun bt => if bt.2 = true then ((impl_NeumeName.f bt.1).bind fun t => if (t.toList == a0.toList) = true then some (bt.1, true) else some (⟨#[]⟩, false)) else some (⟨#[]⟩, false)
/-- What follows the rows. -/
def ncEnd (a0 r1 : ByteArray) (r2 : Bool) : Prop := ncFrom a0 ncs = none → ((strings_CutPrefix.f a0 ⟨#[103, 114, 111, 117, 112, 45]⟩).bind fun bt => if bt.2 = true then ((impl_NeumeName.f bt.1).bind fun t => if (t.toList == a0.toList) = true then some (bt.1, true) else some (⟨#[]⟩, false)) else some (⟨#[]⟩, false)) = some (r1, r2)
def ncRow (a0 r1 : ByteArray) (r2 : Bool) : Prop := ∀ c, ncFrom a0 ncs = some c → r1 = c ∧ r2 = true
set_option maxHeartbeats 2000000 in
theorem impl_NeumeContour.calls (a0 : ByteArray) (r1 : ByteArray) (r2 : Bool) (w : World) (h : impl_NeumeContour.f a0 = some (r1, r2)) (hG : Aside0 (GL w)) :
    Calls Tryd.prog 31 #[.string a0] w fun e w' => e = .returned (.tuple #[.string r1, .bool r2]) ∧ Below w.heap.size w w' := by
  have HB : Aside0 (Below w.heap.size w w) := ⟨Below.refl _ _⟩
  unfold impl_NeumeContour.f at h
  by_cases e0 : a0.toList.isEmpty = true
  · rw [if_pos e0] at h
    simp only [Option.some.injEq, Prod.mk.injEq] at h
    obtain ⟨rfl, rfl⟩ := h
    clear hG
    go_enter Tryd.func31, Tryd.ntmps31
    go_wp2
    exact bodyPost_ret (v := .tuple #[.string ⟨#[]⟩, .bool false]) (by simp [results, Tryd.results31, go_sem]) rfl ⟨rfl, HB.out⟩
  · rw [if_neg e0] at h
    have e00 : a0.toList.isEmpty = false := by simpa using e0
    have hE : Aside0 (ncEnd a0 r1 r2) := ⟨fun hn => by rw [hn] at h; exact h⟩
    have hR : Aside0 (ncRow a0 r1 r2) := ⟨fun c hn => by rw [hn] at h; simp only [Option.some.injEq, Prod.mk.injEq] at h; exact ⟨h.1.symm, h.2.symm⟩⟩
    clear h e0
    go_enter Tryd.func31, Tryd.ntmps31
    have c0_ : w.cell? ⟨0, 0, none⟩ = some (.string ⟨#[]⟩) := hG.out 0 (by omega)
    have c1_ : w.cell? ⟨0, 1, none⟩ = some (.string ⟨#[112, 117, 110, 99, 116, 117, 109]⟩) := hG.out 1 (by omega)
    have c2_ : w.cell? ⟨0, 2, none⟩ = some (.string ⟨#[117]⟩) := hG.out 2 (by omega)
    have c3_ : w.cell? ⟨0, 3, none⟩ = some (.string ⟨#[112, 101, 115]⟩) := hG.out 3 (by omega)
    have c4_ : w.cell? ⟨0, 4, none⟩ = some (.string ⟨#[100]⟩) := hG.out 4 (by omega)
    have c5_ : w.cell? ⟨0, 5, none⟩ = some (.string ⟨#[99, 108, 105, 118, 105, 115]⟩) := hG.out 5 (by omega)
    have c6_ : w.cell? ⟨0, 6, none⟩ = some (.string ⟨#[117, 100]⟩) := hG.out 6 (by omega)
    have c7_ : w.cell? ⟨0, 7, none⟩ = some (.string ⟨#[116, 111, 114, 99, 117, 108, 117, 115]⟩) := hG.out 7 (by omega)
    have c8_ : w.cell? ⟨0, 8, none⟩ = some (.string ⟨#[100, 117]⟩) := hG.out 8 (by omega)
    have c9_ : w.cell? ⟨0, 9, none⟩ = some (.string ⟨#[112, 111, 114, 114, 101, 99, 116, 117, 115]⟩) := hG.out 9 (by omega)
    have c10_ : w.cell? ⟨0, 10, none⟩ = some (.string ⟨#[117, 117]⟩) := hG.out 10 (by omega)
    have c11_ : w.cell? ⟨0, 11, none⟩ = some (.string ⟨#[115, 99, 97, 110, 100, 105, 99, 117, 115]⟩) := hG.out 11 (by omega)
    have c12_ : w.cell? ⟨0, 12, none⟩ = some (.string ⟨#[100, 100]⟩) := hG.out 12 (by omega)
    have c13_ : w.cell? ⟨0, 13, none⟩ = some (.string ⟨#[99, 108, 105, 109, 97, 99, 117, 115]⟩) := hG.out 13 (by omega)
    go_wp2
    clear c0_ c1_ c2_ c3_ c4_ c5_ c6_ c7_ c8_ c9_ c10_ c11_ c12_ c13_
    go_loopg [11] 7 (fun kq v11 w' => ∃ i : Nat, v11 = .int .i64 (i : Int) ∧ Aside0 (ncFrom a0 (ncs.drop i) = ncFrom a0 ncs) ∧ Aside0 (i + kq = 7) ∧ Aside0 (Below w.heap.size w w'))
    case atStart => exact ⟨0, rfl, ⟨rfl⟩, ⟨rfl⟩, HB⟩
    case round =>
      clear HB
      obtain ⟨i, hv, hN, hK, HB⟩ := hrel
      have hi : i = 0 ∨ i = 1 ∨ i = 2 ∨ i = 3 ∨ i = 4 ∨ i = 5 ∨ i = 6 ∨ i = 7 := by have := hK.out; omega
      rcases hi with rfl | rfl | rfl | rfl | rfl | rfl | rfl | rfl
      · obtain rfl : u11 = .int .i64 0 := hv
        have hix : ∀ W : World, (Instr.index 43 (.agg #[.string ⟨#[]⟩, .string ⟨#[112, 117, 110, 99, 116, 117, 109]⟩, .string ⟨#[117]⟩, .string ⟨#[112, 101, 115]⟩, .string ⟨#[100]⟩, .string ⟨#[99, 108, 105, 118, 105, 115]⟩, .string ⟨#[117, 100]⟩, .string ⟨#[116, 111, 114, 99, 117, 108, 117, 115]⟩, .string ⟨#[100, 117]⟩, .string ⟨#[112, 111, 114, 114, 101, 99, 116, 117, 115]⟩, .string ⟨#[117, 117]⟩, .string ⟨#[115, 99, 97, 110, 100, 105, 99, 117, 115]⟩, .string ⟨#[100, 100]⟩, .string ⟨#[99, 108, 105, 109, 97, 99, 117, 115]⟩]) (.int .i64 0)).run Tryd.prog W = .ok (.agg #[.string ⟨#[]⟩, .string ⟨#[112, 117, 110, 99, 116, 117, 109]⟩]) W := fun W => by kernel_rfl
        obtain rfl : gk = 6 + 1 := by have := hK.out; omega
        by_cases e : ([112, 117, 110, 99, 116, 117, 109] == a0.toList) = true
        · obtain ⟨rfl, rfl⟩ := hR.out ⟨#[]⟩ (by rw [← hN.out]; show (if (([112, 117, 110, 99, 116, 117, 109] : List UInt8) == a0.toList) = true then _ else _) = _; rw [if_pos e])
          clear hN hE hR
          go_wp2
          exact bodyPost_ret (v := .tuple #[.string ⟨#[]⟩, .bool true]) (by simp [results, Tryd.results31, go_sem]) rfl ⟨rfl, by repeat (first | exact HB.out | apply below_alloc)⟩
        · have e2 : ([112, 117, 110, 99, 116, 117, 109] == a0.toList) = false := by simpa using e
          have hrA : Aside0 (ncFrom a0 (ncs.drop 1) = ncFrom a0 ncs) := ⟨by rw [← hN.out]; show _ = (if (([112, 117, 110, 99, 116, 117, 109] : List UInt8) == a0.toList) = true then _ else _); rw [if_neg e]; rfl⟩
          clear hN e
          go_wp2
          go_roundg 6
          case measure => omega
          case rel => exact ⟨1, rfl, hrA, ⟨rfl⟩, ⟨by repeat (first | exact HB.out | apply below_alloc)⟩⟩
      · obtain rfl : u11 = .int .i64 1 := hv
        have hix : ∀ W : World, (Instr.index 43 (.agg #[.string ⟨#[]⟩, .string ⟨#[112, 117, 110, 99, 116, 117, 109]⟩, .string ⟨#[117]⟩, .string ⟨#[112, 101, 115]⟩, .string ⟨#[100]⟩, .string ⟨#[99, 108, 105, 118, 105, 115]⟩, .string ⟨#[117, 100]⟩, .string ⟨#[116, 111, 114, 99, 117, 108, 117, 115]⟩, .string ⟨#[100, 117]⟩, .string ⟨#[112, 111, 114, 114, 101, 99, 116, 117, 115]⟩, .string ⟨#[117, 117]⟩, .string ⟨#[115, 99, 97, 110, 100, 105, 99, 117, 115]⟩, .string ⟨#[100, 100]⟩, .string ⟨#[99, 108, 105, 109, 97, 99, 117, 115]⟩]) (.int .i64 1)).run Tryd.prog W = .ok (.agg #[.string ⟨#[117]⟩, .string ⟨#[112, 101, 115]⟩]) W := fun W => by kernel_rfl
        obtain rfl : gk = 5 + 1 := by have := hK.out; omega
        by_cases e : ([112, 101, 115] == a0.toList) = true
        · obtain ⟨rfl, rfl⟩ := hR.out ⟨#[117]⟩ (by rw [← hN.out]; show (if (([112, 101, 115] : List UInt8) == a0.toList) = true then _ else _) = _; rw [if_pos e])
          clear hN hE hR
          go_wp2
          exact bodyPost_ret (v := .tuple #[.string ⟨#[117]⟩, .bool true]) (by simp [results, Tryd.results31, go_sem]) rfl ⟨rfl, by repeat (first | exact HB.out | apply below_alloc)⟩
        · have e2 : ([112, 101, 115] == a0.toList) = false := by simpa using e
          have hrA : Aside0 (ncFrom a0 (ncs.drop 2) = ncFrom a0 ncs) := ⟨by rw [← hN.out]; show _ = (if (([112, 101, 115] : List UInt8) == a0.toList) = true then _ else _); rw [if_neg e]; rfl⟩
          clear hN e
          go_wp2
          go_roundg 5
          case measure => omega
          case rel => exact ⟨2, rfl, hrA, ⟨rfl⟩, ⟨by repeat (first | exact HB.out | apply below_alloc)⟩⟩
      · obtain rfl : u11 = .int .i64 2 := hv
        have hix : ∀ W : World, (Instr.index 43 (.agg #[.string ⟨#[]⟩, .string ⟨#[112, 117, 110, 99, 116, 117, 109]⟩, .string ⟨#[117]⟩, .string ⟨#[112, 101, 115]⟩, .string ⟨#[100]⟩, .string ⟨#[99, 108, 105, 118, 105, 115]⟩, .string ⟨#[117, 100]⟩, .string ⟨#[116, 111, 114, 99, 117, 108, 117, 115]⟩, .string ⟨#[100, 117]⟩, .string ⟨#[112, 111, 114, 114, 101, 99, 116, 117, 115]⟩, .string ⟨#[117, 117]⟩, .string ⟨#[115, 99, 97, 110, 100, 105, 99, 117, 115]⟩, .string ⟨#[100, 100]⟩, .string ⟨#[99, 108, 105, 109, 97, 99, 117, 115]⟩]) (.int .i64 2)).run Tryd.prog W = .ok (.agg #[.string ⟨#[100]⟩, .string ⟨#[99, 108, 105, 118, 105, 115]⟩]) W := fun W => by kernel_rfl
        obtain rfl : gk = 4 + 1 := by have := hK.out; omega
        by_cases e : ([99, 108, 105, 118, 105, 115] == a0.toList) = true
        · obtain ⟨rfl, rfl⟩ := hR.out ⟨#[100]⟩ (by rw [← hN.out]; show (if (([99, 108, 105, 118, 105, 115] : List UInt8) == a0.toList) = true then _ else _) = _; rw [if_pos e])
          clear hN hE hR
          go_wp2
          exact bodyPost_ret (v := .tuple #[.string ⟨#[100]⟩, .bool true]) (by simp [results, Tryd.results31, go_sem]) rfl ⟨rfl, by repeat (first | exact HB.out | apply below_alloc)⟩
        · have e2 : ([99, 108, 105, 118, 105, 115] == a0.toList) = false := by simpa using e
          have hrA : Aside0 (ncFrom a0 (ncs.drop 3) = ncFrom a0 ncs) := ⟨by rw [← hN.out]; show _ = (if (([99, 108, 105, 118, 105, 115] : List UInt8) == a0.toList) = true then _ else _); rw [if_neg e]; rfl⟩
          clear hN e
          go_wp2
          go_roundg 4
          case measure => omega
          case rel => exact ⟨3, rfl, hrA, ⟨rfl⟩, ⟨by repeat (first | exact HB.out | apply below_alloc)⟩⟩
      · obtain rfl : u11 = .int .i64 3 := hv
        have hix : ∀ W : World, (Instr.index 43 (.agg #[.string ⟨#[]⟩, .string ⟨#[112, 117, 110, 99, 116, 117, 109]⟩, .string ⟨#[117]⟩, .string ⟨#[112, 101, 115]⟩, .string ⟨#[100]⟩, .string ⟨#[99, 108, 105, 118, 105, 115]⟩, .string ⟨#[117, 100]⟩, .string ⟨#[116, 111, 114, 99, 117, 108, 117, 115]⟩, .string ⟨#[100, 117]⟩, .string ⟨#[112, 111, 114, 114, 101, 99, 116, 117, 115]⟩, .string ⟨#[117, 117]⟩, .string ⟨#[115, 99, 97, 110, 100, 105, 99, 117, 115]⟩, .string ⟨#[100, 100]⟩, .string ⟨#[99, 108, 105, 109, 97, 99, 117, 115]⟩]) (.int .i64 3)).run Tryd.prog W = .ok (.agg #[.string ⟨#[117, 100]⟩, .string ⟨#[116, 111, 114, 99, 117, 108, 117, 115]⟩]) W := fun W => by kernel_rfl
        obtain rfl : gk = 3 + 1 := by have := hK.out; omega
        by_cases e : ([116, 111, 114, 99, 117, 108, 117, 115] == a0.toList) = true
        · obtain ⟨rfl, rfl⟩ := hR.out ⟨#[117, 100]⟩ (by rw [← hN.out]; show (if (([116, 111, 114, 99, 117, 108, 117, 115] : List UInt8) == a0.toList) = true then _ else _) = _; rw [if_pos e])
          clear hN hE hR
          go_wp2
          exact bodyPost_ret (v := .tuple #[.string ⟨#[117, 100]⟩, .bool true]) (by simp [results, Tryd.results31, go_sem]) rfl ⟨rfl, by repeat (first | exact HB.out | apply below_alloc)⟩
        · have e2 : ([116, 111, 114, 99, 117, 108, 117, 115] == a0.toList) = false := by simpa using e
          have hrA : Aside0 (ncFrom a0 (ncs.drop 4) = ncFrom a0 ncs) := ⟨by rw [← hN.out]; show _ = (if (([116, 111, 114, 99, 117, 108, 117, 115] : List UInt8) == a0.toList) = true then _ else _); rw [if_neg e]; rfl⟩
          clear hN e
          go_wp2
          go_roundg 3
          case measure => omega
          case rel => exact ⟨4, rfl, hrA, ⟨rfl⟩, ⟨by repeat (first | exact HB.out | apply below_alloc)⟩⟩
      · obtain rfl : u11 = .int .i64 4 := hv
        have hix : ∀ W : World, (Instr.index 43 (.agg #[.string ⟨#[]⟩, .string ⟨#[112, 117, 110, 99, 116, 117, 109]⟩, .string ⟨#[117]⟩, .string ⟨#[112, 101, 115]⟩, .string ⟨#[100]⟩, .string ⟨#[99, 108, 105, 118, 105, 115]⟩, .string ⟨#[117, 100]⟩, .string ⟨#[116, 111, 114, 99, 117, 108, 117, 115]⟩, .string ⟨#[100, 117]⟩, .string ⟨#[112, 111, 114, 114, 101, 99, 116, 117, 115]⟩, .string ⟨#[117, 117]⟩, .string ⟨#[115, 99, 97, 110, 100, 105, 99, 117, 115]⟩, .string ⟨#[100, 100]⟩, .string ⟨#[99, 108, 105, 109, 97, 99, 117, 115]⟩]) (.int .i64 4)).run Tryd.prog W = .ok (.agg #[.string ⟨#[100, 117]⟩, .string ⟨#[112, 111, 114, 114, 101, 99, 116, 117, 115]⟩]) W := fun W => by kernel_rfl
        obtain rfl : gk = 2 + 1 := by have := hK.out; omega
        by_cases e : ([112, 111, 114, 114, 101, 99, 116, 117, 115] == a0.toList) = true
        · obtain ⟨rfl, rfl⟩ := hR.out ⟨#[100, 117]⟩ (by rw [← hN.out]; show (if (([112, 111, 114, 114, 101, 99, 116, 117, 115] : List UInt8) == a0.toList) = true then _ else _) = _; rw [if_pos e])
          clear hN hE hR
          go_wp2
          exact bodyPost_ret (v := .tuple #[.string ⟨#[100, 117]⟩, .bool true]) (by simp [results, Tryd.results31, go_sem]) rfl ⟨rfl, by repeat (first | exact HB.out | apply below_alloc)⟩
        · have e2 : ([112, 111, 114, 114, 101, 99, 116, 117, 115] == a0.toList) = false := by simpa using e
          have hrA : Aside0 (ncFrom a0 (ncs.drop 5) = ncFrom a0 ncs) := ⟨by rw [← hN.out]; show _ = (if (([112, 111, 114, 114, 101, 99, 116, 117, 115] : List UInt8) == a0.toList) = true then _ else _); rw [if_neg e]; rfl⟩
          clear hN e
          go_wp2
          go_roundg 2
          case measure => omega
          case rel => exact ⟨5, rfl, hrA, ⟨rfl⟩, ⟨by repeat (first | exact HB.out | apply below_alloc)⟩⟩
      · obtain rfl : u11 = .int .i64 5 := hv
        have hix : ∀ W : World, (Instr.index 43 (.agg #[.string ⟨#[]⟩, .string ⟨#[112, 117, 110, 99, 116, 117, 109]⟩, .string ⟨#[117]⟩, .string ⟨#[112, 101, 115]⟩, .string ⟨#[100]⟩, .string ⟨#[99, 108, 105, 118, 105, 115]⟩, .string ⟨#[117, 100]⟩, .string ⟨#[116, 111, 114, 99, 117, 108, 117, 115]⟩, .string ⟨#[100, 117]⟩, .string ⟨#[112, 111, 114, 114, 101, 99, 116, 117, 115]⟩, .string ⟨#[117, 117]⟩, .string ⟨#[115, 99, 97, 110, 100, 105, 99, 117, 115]⟩, .string ⟨#[100, 100]⟩, .string ⟨#[99, 108, 105, 109, 97, 99, 117, 115]⟩]) (.int .i64 5)).run Tryd.prog W = .ok (.agg #[.string ⟨#[117, 117]⟩, .string ⟨#[115, 99, 97, 110, 100, 105, 99, 117, 115]⟩]) W := fun W => by kernel_rfl
        obtain rfl : gk = 1 + 1 := by have := hK.out; omega
        by_cases e : ([115, 99, 97, 110, 100, 105, 99, 117, 115] == a0.toList) = true
        · obtain ⟨rfl, rfl⟩ := hR.out ⟨#[117, 117]⟩ (by rw [← hN.out]; show (if (([115, 99, 97, 110, 100, 105, 99, 117, 115] : List UInt8) == a0.toList) = true then _ else _) = _; rw [if_pos e])
          clear hN hE hR
          go_wp2
          exact bodyPost_ret (v := .tuple #[.string ⟨#[117, 117]⟩, .bool true]) (by simp [results, Tryd.results31, go_sem]) rfl ⟨rfl, by repeat (first | exact HB.out | apply below_alloc)⟩
        · have e2 : ([115, 99, 97, 110, 100, 105, 99, 117, 115] == a0.toList) = false := by simpa using e
          have hrA : Aside0 (ncFrom a0 (ncs.drop 6) = ncFrom a0 ncs) := ⟨by rw [← hN.out]; show _ = (if (([115, 99, 97, 110, 100, 105, 99, 117, 115] : List UInt8) == a0.toList) = true then _ else _); rw [if_neg e]; rfl⟩
          clear hN e
          go_wp2
          go_roundg 1
          case measure => omega
          case rel => exact ⟨6, rfl, hrA, ⟨rfl⟩, ⟨by repeat (first | exact HB.out | apply below_alloc)⟩⟩
      · obtain rfl : u11 = .int .i64 6 := hv
        have hix : ∀ W : World, (Instr.index 43 (.agg #[.string ⟨#[]⟩, .string ⟨#[112, 117, 110, 99, 116, 117, 109]⟩, .string ⟨#[117]⟩, .string ⟨#[112, 101, 115]⟩, .string ⟨#[100]⟩, .string ⟨#[99, 108, 105, 118, 105, 115]⟩, .string ⟨#[117, 100]⟩, .string ⟨#[116, 111, 114, 99, 117, 108, 117, 115]⟩, .string ⟨#[100, 117]⟩, .string ⟨#[112, 111, 114, 114, 101, 99, 116, 117, 115]⟩, .string ⟨#[117, 117]⟩, .string ⟨#[115, 99, 97, 110, 100, 105, 99, 117, 115]⟩, .string ⟨#[100, 100]⟩, .string ⟨#[99, 108, 105, 109, 97, 99, 117, 115]⟩]) (.int .i64 6)).run Tryd.prog W = .ok (.agg #[.string ⟨#[100, 100]⟩, .string ⟨#[99, 108, 105, 109, 97, 99, 117, 115]⟩]) W := fun W => by kernel_rfl
        obtain rfl : gk = 0 + 1 := by have := hK.out; omega
        by_cases e : ([99, 108, 105, 109, 97, 99, 117, 115] == a0.toList) = true
        · obtain ⟨rfl, rfl⟩ := hR.out ⟨#[100, 100]⟩ (by rw [← hN.out]; show (if (([99, 108, 105, 109, 97, 99, 117, 115] : List UInt8) == a0.toList) = true then _ else _) = _; rw [if_pos e])
          clear hN hE hR
          go_wp2
          exact bodyPost_ret (v := .tuple #[.string ⟨#[100, 100]⟩, .bool true]) (by simp [results, Tryd.results31, go_sem]) rfl ⟨rfl, by repeat (first | exact HB.out | apply below_alloc)⟩
        · have e2 : ([99, 108, 105, 109, 97, 99, 117, 115] == a0.toList) = false := by simpa using e
          have hrA : Aside0 (ncFrom a0 (ncs.drop 7) = ncFrom a0 ncs) := ⟨by rw [← hN.out]; show _ = (if (([99, 108, 105, 109, 97, 99, 117, 115] : List UInt8) == a0.toList) = true then _ else _); rw [if_neg e]; rfl⟩
          clear hN e
          go_wp2
          go_roundg 0
          case measure => omega
          case rel => exact ⟨7, rfl, hrA, ⟨rfl⟩, ⟨by repeat (first | exact HB.out | apply below_alloc)⟩⟩
      · obtain rfl : u11 = .int .i64 7 := hv
        have hend := hE.out (by rw [← hN.out]; rfl)
        clear hN hR hE
        cases hc : strings_CutPrefix.f a0 ⟨#[103, 114, 111, 117, 112, 45]⟩ with
        | none => rw [hc] at hend; exact absurd hend (by simp)
        | some bt =>
          obtain ⟨b1, b2⟩ := bt
          rw [hc] at hend
          replace hend : (if b2 = true then ((impl_NeumeName.f b1).bind fun t => if (t.toList == a0.toList) = true then some (b1, true) else some (⟨#[]⟩, false)) else some ((⟨#[]⟩ : ByteArray), false)) = some (r1, r2) := hend
          have A3 := Aside0.mk hc
          clear hc
          cases b2 with
          | false =>
            rw [if_neg (by simp)] at hend
            simp only [Option.some.injEq, Prod.mk.injEq] at hend
            obtain ⟨rfl, rfl⟩ := hend
            go_wp2_with (first | ((with_reducible refine gate_callee (f := 45) rfl ?_); refine goesL_ (some 23) rfl rfl Tryd.func45 (by kernel_rfl) rfl #[.string a0, .string ⟨#[103, 114, 111, 117, 112, 45]⟩] rfl (by (try simp only [List.map_toArray, List.map_cons, List.map_nil]); first | done | rfl) ?_; (with_reducible refine (strings_CutPrefix.calls a0 ⟨#[103, 114, 111, 117, 112, 45]⟩ b1 false _ A3.out).mono ?_); rintro e_ w5 ⟨rfl, hb⟩; refine ⟨_, rfl, ?_⟩; have n0_ := Aside0.mk (below_step HB.out hb); clear HB; have HB := n0_; clear n0_; (try clear hb)))
            exact bodyPost_ret (v := .tuple #[.string ⟨#[]⟩, .bool false]) (by simp [results, Tryd.results31, go_sem]) rfl ⟨rfl, HB.out⟩
          | true =>
            rw [if_pos rfl] at hend
            cases hm : impl_NeumeName.f b1 with
            | none => rw [hm] at hend; exact absurd hend (by simp)
            | some t =>
              rw [hm] at hend
              replace hend : (if (t.toList == a0.toList) = true then some (b1, true) else some ((⟨#[]⟩ : ByteArray), false)) = some (r1, r2) := hend
              have A4 := Aside0.mk hm
              clear hm
              by_cases e : (t.toList == a0.toList) = true
              · rw [if_pos e] at hend
                simp only [Option.some.injEq, Prod.mk.injEq] at hend
                obtain ⟨rfl, rfl⟩ := hend
                have e3 : (t.toList != a0.toList) = false := by simpa using e
                go_wp2_with (first | ((with_reducible refine gate_callee (f := 45) rfl ?_); refine goesL_ (some 23) rfl rfl Tryd.func45 (by kernel_rfl) rfl #[.string a0, .string ⟨#[103, 114, 111, 117, 112, 45]⟩] rfl (by (try simp only [List.map_toArray, List.map_cons, List.map_nil]); first | done | rfl) ?_; (with_reducible refine (strings_CutPrefix.calls a0 ⟨#[103, 114, 111, 117, 112, 45]⟩ b1 true _ A3.out).mono ?_); rintro e_ w5 ⟨rfl, hb⟩; refine ⟨_, rfl, ?_⟩; have n0_ := Aside0.mk (below_step HB.out hb); clear HB; have HB := n0_; clear n0_; (try clear hb)) | ((with_reducible refine gate_callee (f := 18) rfl ?_); (refine gate_guard (by rfl) ?_; dsimp only); refine goesL_ (some 30) rfl rfl Tryd.func18 (by kernel_rfl) rfl #[.string b1] rfl (by (try simp only [List.map_toArray, List.map_cons, List.map_nil]); first | done | rfl) ?_; (with_reducible refine (impl_NeumeName.calls b1 t _ A4.out (GL.aside hG HB.out)).mono ?_); rintro e_ w6 ⟨rfl, hb⟩; refine ⟨_, rfl, ?_⟩; have n0_ := Aside0.mk (below_step HB.out hb); clear HB; have HB := n0_; clear n0_; (try clear hb)))
                repeat (go_quiet (first | ((with_reducible refine gate_callee (f := 45) rfl ?_); refine goesL_ (some 23) rfl rfl Tryd.func45 (by kernel_rfl) rfl #[.string a0, .string ⟨#[103, 114, 111, 117, 112, 45]⟩] rfl (by (try simp only [List.map_toArray, List.map_cons, List.map_nil]); first | done | rfl) ?_; (with_reducible refine (strings_CutPrefix.calls a0 ⟨#[103, 114, 111, 117, 112, 45]⟩ b1 true _ A3.out).mono ?_); rintro e_ w5 ⟨rfl, hb⟩; refine ⟨_, rfl, ?_⟩; have n0_ := Aside0.mk (below_step HB.out hb); clear HB; have HB := n0_; clear n0_; (try clear hb)) | ((with_reducible refine gate_callee (f := 18) rfl ?_); (refine gate_guard (by rfl) ?_; dsimp only); refine goesL_ (some 30) rfl rfl Tryd.func18 (by kernel_rfl) rfl #[.string b1] rfl (by (try simp only [List.map_toArray, List.map_cons, List.map_nil]); first | done | rfl) ?_; (with_reducible refine (impl_NeumeName.calls b1 t _ A4.out (GL.aside hG HB.out)).mono ?_); rintro e_ w6 ⟨rfl, hb⟩; refine ⟨_, rfl, ?_⟩; have n0_ := Aside0.mk (below_step HB.out hb); clear HB; have HB := n0_; clear n0_; (try clear hb))); try go_wp2_with (first | ((with_reducible refine gate_callee (f := 45) rfl ?_); refine goesL_ (some 23) rfl rfl Tryd.func45 (by kernel_rfl) rfl #[.string a0, .string ⟨#[103, 114, 111, 117, 112, 45]⟩] rfl (by (try simp only [List.map_toArray, List.map_cons, List.map_nil]); first | done | rfl) ?_; (with_reducible refine (strings_CutPrefix.calls a0 ⟨#[103, 114, 111, 117, 112, 45]⟩ b1 true _ A3.out).mono ?_); rintro e_ w5 ⟨rfl, hb⟩; refine ⟨_, rfl, ?_⟩; have n0_ := Aside0.mk (below_step HB.out hb); clear HB; have HB := n0_; clear n0_; (try clear hb)) | ((with_reducible refine gate_callee (f := 18) rfl ?_); (refine gate_guard (by rfl) ?_; dsimp only); refine goesL_ (some 30) rfl rfl Tryd.func18 (by kernel_rfl) rfl #[.string b1] rfl (by (try simp only [List.map_toArray, List.map_cons, List.map_nil]); first | done | rfl) ?_; (with_reducible refine (impl_NeumeName.calls b1 t _ A4.out (GL.aside hG HB.out)).mono ?_); rintro e_ w6 ⟨rfl, hb⟩; refine ⟨_, rfl, ?_⟩; have n0_ := Aside0.mk (below_step HB.out hb); clear HB; have HB := n0_; clear n0_; (try clear hb))))
                exact bodyPost_ret (v := .tuple #[.string b1, .bool true]) (by simp [results, Tryd.results31, go_sem]) rfl ⟨rfl, HB.out⟩
              · rw [if_neg e] at hend
                simp only [Option.some.injEq, Prod.mk.injEq] at hend
                obtain ⟨rfl, rfl⟩ := hend
                have e2 : (t.toList == a0.toList) = false := by simpa using e
                have e3 : (t.toList != a0.toList) = true := by simpa using e
                go_wp2_with (first | ((with_reducible refine gate_callee (f := 45) rfl ?_); refine goesL_ (some 23) rfl rfl Tryd.func45 (by kernel_rfl) rfl #[.string a0, .string ⟨#[103, 114, 111, 117, 112, 45]⟩] rfl (by (try simp only [List.map_toArray, List.map_cons, List.map_nil]); first | done | rfl) ?_; (with_reducible refine (strings_CutPrefix.calls a0 ⟨#[103, 114, 111, 117, 112, 45]⟩ b1 true _ A3.out).mono ?_); rintro e_ w5 ⟨rfl, hb⟩; refine ⟨_, rfl, ?_⟩; have n0_ := Aside0.mk (below_step HB.out hb); clear HB; have HB := n0_; clear n0_; (try clear hb)) | ((with_reducible refine gate_callee (f := 18) rfl ?_); (refine gate_guard (by rfl) ?_; dsimp only); refine goesL_ (some 30) rfl rfl Tryd.func18 (by kernel_rfl) rfl #[.string b1] rfl (by (try simp only [List.map_toArray, List.map_cons, List.map_nil]); first | done | rfl) ?_; (with_reducible refine (impl_NeumeName.calls b1 t _ A4.out (GL.aside hG HB.out)).mono ?_); rintro e_ w6 ⟨rfl, hb⟩; refine ⟨_, rfl, ?_⟩; have n0_ := Aside0.mk (below_step HB.out hb); clear HB; have HB := n0_; clear n0_; (try clear hb)))
                repeat (go_quiet (first | ((with_reducible refine gate_callee (f := 45) rfl ?_); refine goesL_ (some 23) rfl rfl Tryd.func45 (by kernel_rfl) rfl #[.string a0, .string ⟨#[103, 114, 111, 117, 112, 45]⟩] rfl (by (try simp only [List.map_toArray, List.map_cons, List.map_nil]); first | done | rfl) ?_; (with_reducible refine (strings_CutPrefix.calls a0 ⟨#[103, 114, 111, 117, 112, 45]⟩ b1 true _ A3.out).mono ?_); rintro e_ w5 ⟨rfl, hb⟩; refine ⟨_, rfl, ?_⟩; have n0_ := Aside0.mk (below_step HB.out hb); clear HB; have HB := n0_; clear n0_; (try clear hb)) | ((with_reducible refine gate_callee (f := 18) rfl ?_); (refine gate_guard (by rfl) ?_; dsimp only); refine goesL_ (some 30) rfl rfl Tryd.func18 (by kernel_rfl) rfl #[.string b1] rfl (by (try simp only [List.map_toArray, List.map_cons, List.map_nil]); first | done | rfl) ?_; (with_reducible refine (impl_NeumeName.calls b1 t _ A4.out (GL.aside hG HB.out)).mono ?_); rintro e_ w6 ⟨rfl, hb⟩; refine ⟨_, rfl, ?_⟩; have n0_ := Aside0.mk (below_step HB.out hb); clear HB; have HB := n0_; clear n0_; (try clear hb))); try go_wp2_with (first | ((with_reducible refine gate_callee (f := 45) rfl ?_); refine goesL_ (some 23) rfl rfl Tryd.func45 (by kernel_rfl) rfl #[.string a0, .string ⟨#[103, 114, 111, 117, 112, 45]⟩] rfl (by (try simp only [List.map_toArray, List.map_cons, List.map_nil]); first | done | rfl) ?_; (with_reducible refine (strings_CutPrefix.calls a0 ⟨#[103, 114, 111, 117, 112, 45]⟩ b1 true _ A3.out).mono ?_); rintro e_ w5 ⟨rfl, hb⟩; refine ⟨_, rfl, ?_⟩; have n0_ := Aside0.mk (below_step HB.out hb); clear HB; have HB := n0_; clear n0_; (try clear hb)) | ((with_reducible refine gate_callee (f := 18) rfl ?_); (refine gate_guard (by rfl) ?_; dsimp only); refine goesL_ (some 30) rfl rfl Tryd.func18 (by kernel_rfl) rfl #[.string b1] rfl (by (try simp only [List.map_toArray, List.map_cons, List.map_nil]); first | done | rfl) ?_; (with_reducible refine (impl_NeumeName.calls b1 t _ A4.out (GL.aside hG HB.out)).mono ?_); rintro e_ w6 ⟨rfl, hb⟩; refine ⟨_, rfl, ?_⟩; have n0_ := Aside0.mk (below_step HB.out hb); clear HB; have HB := n0_; clear n0_; (try clear hb))))
                exact bodyPost_ret (v := .tuple #[.string ⟨#[]⟩, .bool false]) (by simp [results, Tryd.results31, go_sem]) rfl ⟨rfl, HB.out⟩

end Go.Proofs.YtnbjfkjpaaoooaaDoor.XN
