/- The plain laws: what the Lean functions of the walks come to. No program and no memory in sight. No condition beyond what each theorem says. -/
import Derived.Test.YtopibbgclbdigaaXCx1
import Derived.Test.YtopibbgclbdigaaXCx2
import Derived.Test.YtopibbgclbdigaaXCx3
namespace Go.Proofs.Ytopibbgclbdigaa.ZC
open Go.RowKit Go.Proofs.Ytopibbgclbdigaa.XC Go.Proofs.YtopibbgclbdigaaW.PrintWords Go.Proofs.YtopibbgclbdigaaW.PrintLast
set_option linter.unusedVariables false
set_option linter.unusedSimpArgs false
theorem w64 {x : Int} (h0 : -9223372036854775808 ≤ x) (h1 : x < 9223372036854775808) : wrap64 x = x := by unfold wrap64; omega
/-- Not by rfl: so simp leaves a proof, and the kernel need not compare the two sides by running them. -/
theorem bs {α β : Type} (a : α) (f : α → Option β) : (some a).bind f = f a := by
  have h : ∀ o : Option α, o = some a → o.bind f = f a := by
    rintro _ rfl
    rfl
  exact h _ rfl
/-- A tone of the gamut. -/
def vld (s : Int) (b : Bool) : Bool := decide (0 ≤ s) && (decide (s ≤ 20) && (!b || (Int.tmod s 7 == 2)))
theorem vld_bd {s : Int} {b : Bool} (h : vld s b = true) : 0 ≤ s ∧ s ≤ 20 := by
  simp only [vld, Bool.and_eq_true, decide_eq_true_eq] at h
  exact ⟨h.1, h.2.1⟩
theorem spec_valid (s : Int) (b : Bool) : spec_ToneValid.f s b = some (vld s b) := by
  unfold spec_ToneValid.f spec_l6In.f spec_l1Letter.f vld
  by_cases h0 : 0 ≤ s
  · rw [if_pos h0, decide_eq_true h0]
    by_cases h1 : s ≤ 20
    · cases b <;> simp [h1]
    · simp [h1]
  · rw [if_neg h0, decide_eq_false h0]
    simp
theorem impl_valid (s : Int) (b : Bool) : impl_Tone_valid.f s b = some (vld s b) := by
  unfold impl_Tone_valid.f vld
  by_cases h0 : 0 ≤ s
  · rw [if_pos h0, decide_eq_true h0]
    by_cases h1 : s ≤ 20
    · cases b <;> simp [h1]
    · simp [h1]
  · rw [if_neg h0, decide_eq_false h0]
    simp
abbrev St := S31
abbrev Lt := S33
def cv (l : List Lt) : List St := l.map fun x => ⟨x.f0, x.f1⟩
theorem cv_len (l : List Lt) : (cv l).length = l.length := by simp [cv]
theorem w_succ {n : Nat} (h : n < 4611686018427387904) : wrap64 ((n : Int) + 1) = ((n + 1 : Nat) : Int) := by
  rw [w64 (by omega) (by omega)]; omega
theorem drop_at {α : Type} (l : List α) (n : Nat) (z : α) (h : n < l.length) : l.drop n = l.getD n z :: l.drop (n + 1) := by
  rw [List.drop_eq_getElem_cons h, List.getD_eq_getElem?_getD, List.getElem?_eq_getElem h]; rfl
theorem rd_s (l : List St) (n : Nat) : rd_T31 l (n : Int) = l.getD n z31 := by
  unfold rd_T31; rw [Int.toNat_natCast]
theorem rd_l (l : List Lt) (n : Nat) : rd_T33 l (n : Int) = l.getD n z33 := by
  unfold rd_T33; rw [Int.toNat_natCast]
theorem round {k d : Nat} (h : d < k) : ∃ m, k = m + 1 := ⟨k - 1, by omega⟩
theorem toTones_loop (l : List Lt) (hl : l.length ≤ 1048576) (d : Nat) : ∀ (k n : Nat) (x : List St), n + d = l.length → d < k → x.length = l.length →
    laws_toToneS.l0 k l x (n : Int) = some (x.take n ++ (cv l).drop n) := by
  induction d with
  | zero =>
    intro k n x hn hk hx
    obtain ⟨k, rfl⟩ := round hk
    simp only [laws_toToneS.l0]
    rw [if_neg (by omega), List.take_of_length_le (by omega), List.drop_eq_nil_of_le (by rw [cv_len]; omega), List.append_nil]
  | succ d ih =>
    intro k n x hn hk hx
    obtain ⟨k, rfl⟩ := round hk
    simp only [laws_toToneS.l0]
    rw [if_pos (by omega), if_pos (by omega)]
    unfold laws_toTone.f
    simp only [Option.bind_some]
    rw [if_pos (by omega), w_succ (by omega), Int.toNat_natCast, rd_l]
    rw [ih k (n + 1) _ (by omega) (by omega) (by simp [hx])]
    have h1 : n < (cv l).length := by rw [cv_len]; omega
    rw [drop_at (cv l) n ⟨0, false⟩ h1]
    congr 1
    have h2 : (cv l).getD n ⟨0, false⟩ = ⟨(l.getD n z33).f0, (l.getD n z33).f1⟩ := by
      have h3 : n < l.length := by omega
      simp [cv, List.getD_eq_getElem?_getD, List.getElem?_eq_getElem h3]
    rw [h2, List.take_add_one, List.take_set_of_le (Nat.le_refl _), List.getElem?_set_self (by omega)]
    simp
theorem toTones (l : List Lt) (hl : l.length ≤ 1048576) (k : Nat) (hk : l.length < k) : laws_toToneS.f k l = some (cv l) := by
  unfold laws_toToneS.f
  rw [if_pos (by omega), if_pos (by omega), Int.toNat_natCast]
  have := toTones_loop l hl l.length k 0 (List.replicate l.length z31) (by omega) hk (by simp)
  simpa using this
/-- A list is a melody. -/
def mv (l : List St) : Bool := l.all (fun t => vld t.f0 t.f1) && decide (l.length ≤ 24)
theorem specMelody_loop (l : List St) (hl : l.length ≤ 1048576) (d : Nat) : ∀ (k n : Nat), n + d = l.length → d < k →
    spec_MelodyValid.l0 k l (n : Int) = some ((l.drop n).all (fun t => vld t.f0 t.f1) && decide (l.length ≤ 24)) := by
  induction d with
  | zero =>
    intro k n hn hk
    obtain ⟨k, rfl⟩ := round hk
    simp only [spec_MelodyValid.l0]
    rw [if_neg (by omega), List.drop_eq_nil_of_le (by omega)]
    simp
    omega
  | succ d ih =>
    intro k n hn hk
    obtain ⟨k, rfl⟩ := round hk
    simp only [spec_MelodyValid.l0]
    rw [if_pos (by omega), if_pos (by omega), spec_valid, rd_s, w_succ (by omega), ih k (n + 1) (by omega) (by omega), drop_at l n z31 (by omega), List.all_cons]
    cases vld (l.getD n z31).f0 (l.getD n z31).f1 <;> simp
theorem specMelody (l : List St) (hl : l.length ≤ 1048576) (k : Nat) (hk : l.length < k) : spec_MelodyValid.f k l = some (mv l) := by
  unfold spec_MelodyValid.f mv
  have := specMelody_loop l hl l.length k 0 (by omega) hk
  simpa using this
theorem implMelody_loop (l : List St) (hl : l.length ≤ 1048576) (d : Nat) : ∀ (k n : Nat), n + d = l.length → d < k →
    impl_MelodyValid.l0 k l (l.length : Int) (n : Int) = some ((l.drop n).all (fun t => vld t.f0 t.f1)) := by
  induction d with
  | zero =>
    intro k n hn hk
    obtain ⟨k, rfl⟩ := round hk
    simp only [impl_MelodyValid.l0]
    rw [if_neg (by omega), List.drop_eq_nil_of_le (by omega)]
    simp
  | succ d ih =>
    intro k n hn hk
    obtain ⟨k, rfl⟩ := round hk
    simp only [impl_MelodyValid.l0]
    rw [if_pos (by omega), if_pos (by omega), if_pos (by omega), impl_valid, rd_s, w_succ (by omega), ih k (n + 1) (by omega) (by omega), drop_at l n z31 (by omega), List.all_cons]
    cases vld (l.getD n z31).f0 (l.getD n z31).f1 <;> simp
theorem implMelody (l : List St) (hl : l.length ≤ 1048576) (k : Nat) (hk : l.length < k) : impl_MelodyValid.f k l = some (mv l) := by
  unfold impl_MelodyValid.f mv
  by_cases h : (l.length : Int) > 24
  · rw [if_pos h, decide_eq_false (by omega)]; simp
  · rw [if_neg h, decide_eq_true (by omega)]
    have := implMelody_loop l hl l.length k 0 (by omega) hk
    simpa using this
theorem eqTone_self (s : Int) (b : Bool) : laws_eqTone.f s b s b = some true := by
  unfold laws_eqTone.f; simp
theorem eqTones_loop (l : List St) (hl : l.length ≤ 1048576) (d : Nat) : ∀ (k n : Nat), n + d = l.length → d < k → laws_eqToneS.l0 k l l (n : Int) = some true := by
  induction d with
  | zero =>
    intro k n hn hk
    obtain ⟨k, rfl⟩ := round hk
    simp only [laws_eqToneS.l0]
    rw [if_neg (by omega)]
  | succ d ih =>
    intro k n hn hk
    obtain ⟨k, rfl⟩ := round hk
    simp only [laws_eqToneS.l0]
    rw [if_pos (by omega), if_pos (by omega), if_pos (by omega), eqTone_self, w_succ (by omega), ih k (n + 1) (by omega) (by omega)]
    simp
theorem eqTones (l : List St) (hl : l.length ≤ 1048576) (k : Nat) (hk : l.length < k) : laws_eqToneS.f k l l = some true := by
  unfold laws_eqToneS.f
  rw [if_pos rfl]
  exact eqTones_loop l hl l.length k 0 (by omega) hk
theorem szTones (l : List Lt) (c : Int) (hc : 0 ≤ c ∧ c ≤ 1048576) (hm : l.length ≤ 9223372036854775807) : laws_szToneS.f l c = some (if c < l.length then -1 else c - l.length) := by
  unfold laws_szToneS.f
  rw [w64 (by omega) (by omega)]
  by_cases h : c < l.length
  · rw [if_pos (by omega), if_pos h]
  · rw [if_neg (by omega), if_neg h]
theorem str_snoc (xs : List Int) (a : Int) : strOfNums (xs ++ [a]) = strOfNums xs ++ strOfNums [a] := by
  apply ByteArray.ext
  rw [ByteArray.data_append]
  simp [strOfNums]
theorem str_len (xs : List Int) : (strOfNums xs).size = xs.length := by
  simp [strOfNums, ByteArray.size]
theorem spec_way (a b : Int) : spec_l3Way.f a b = some (strOfNums [way a b]) := by
  unfold spec_l3Way.f way
  by_cases h1 : b > a
  · rw [if_pos h1, if_pos h1]; rfl
  · rw [if_neg h1, if_neg h1]
    by_cases h2 : b < a
    · rw [if_pos h2, if_pos h2]; rfl
    · rw [if_neg h2, if_neg h2]; rfl
theorem contour_loop (l : List St) (hl : l.length ≤ 24) (d : Nat) : ∀ (k m : Nat), m + 1 + d = l.length → d < k → spec_l3Contour.l0 k l (strOfNums (waysUpto l m)) ((m + 1 : Nat) : Int) = some (contourStr l) := by
  induction d with
  | zero =>
    intro k m hm hk
    obtain ⟨k, rfl⟩ := round hk
    simp only [spec_l3Contour.l0]
    rw [if_neg (by omega)]
    unfold contourStr
    rw [show l.length - 1 = m by omega]
  | succ d ih =>
    intro k m hm hk
    obtain ⟨k, rfl⟩ := round hk
    simp only [spec_l3Contour.l0]
    have e1 : wrap64 (((m + 1 : Nat) : Int) - 1) = (m : Int) := by rw [w64 (by omega) (by omega)]; omega
    rw [if_pos (by omega), e1, if_pos (by omega), if_pos (by omega), if_pos (by omega), rd_s, rd_s, spec_way]
    simp only [Option.bind_some]
    rw [if_pos (by rw [str_len, str_len, waysUpto_len]; simp; omega), w_succ (by omega)]
    have e2 : strOfNums (waysUpto l m) ++ strOfNums [way (l.getD m z31).f0 (l.getD (m + 1) z31).f0] = strOfNums (waysUpto l (m + 1)) := by
      rw [waysUpto_succ, str_snoc]
      rfl
    rw [e2, ih k (m + 1) (by omega) (by omega)]
theorem specContour (l : List St) (hl : l.length ≤ 24) (k : Nat) (hk : l.length < k) : spec_l3Contour.f k l = some (contourStr l) := by
  unfold spec_l3Contour.f
  match hlen : l.length with
  | 0 =>
    obtain ⟨k, rfl⟩ := round hk
    obtain rfl : l = [] := List.eq_nil_of_length_eq_zero hlen
    simp only [spec_l3Contour.l0]
    rw [if_neg (by simp)]
    rfl
  | n + 1 => exact contour_loop l hl n k 0 (by omega) (by omega)
theorem mv_le {a : List St} (h : mv a = true) : a.length ≤ 24 := by
  simp only [mv, Bool.and_eq_true, decide_eq_true_eq] at h
  exact h.2
def cOf (l : List St) : ByteArray := if mv l = true then contourStr l else ⟨#[]⟩
theorem specCOf (l : List St) (hl : l.length ≤ 1048576) (k : Nat) (hk : l.length < k) : spec_ContourOf.f k l = some (cOf l) := by
  unfold spec_ContourOf.f cOf
  rw [specMelody l hl k hk]
  simp only [Option.bind_some]
  by_cases h : mv l = true
  · rw [if_pos h, if_pos h, specContour l (mv_le h) k hk]
    rfl
  · rw [if_neg h, if_neg h]
theorem implCOf (l : List St) (hl : l.length ≤ 1048576) (k : Nat) (hk : l.length < k) : impl_ContourOf.f k l = some (cOf l) := by
  unfold impl_ContourOf.f cOf
  rw [implMelody l hl k hk]
  simp only [Option.bind_some]
  by_cases h : mv l = true
  · rw [if_pos h, if_pos h]
    unfold impl_melody_contour.f
    rw [if_pos (mv_le h)]
    rfl
  · rw [if_neg h, if_neg h]
theorem FnExactContourOf (l : List Lt) (hm : l.length ≤ 9223372036854775807) (_ : ∀ x ∈ l, (Lit.int .i64 x.f0).wf = true ∧ True) : ∃ k, laws_FnExactContourOf.f k l = some true := by
  refine ⟨l.length + 5, ?_⟩
  unfold laws_FnExactContourOf.f
  rw [szTones l 1048576 (by omega) hm]
  simp only [Option.bind_some]
  by_cases h : (1048576 : Int) < l.length
  · rw [if_pos h, if_pos (by omega)]
  rw [if_neg h, if_neg (by omega)]
  have hl : l.length ≤ 1048576 := by omega
  have hc := cv_len l
  rw [toTones l hl _ (by omega)]
  simp only [Option.bind_some]
  rw [specCOf (cv l) (by omega) _ (by omega), implCOf (cv l) (by omega) _ (by omega)]
  simp only [Option.bind_some, if_true]
  rw [eqTones (cv l) (by omega) _ (by omega)]
  simp
end Go.Proofs.Ytopibbgclbdigaa.ZC
