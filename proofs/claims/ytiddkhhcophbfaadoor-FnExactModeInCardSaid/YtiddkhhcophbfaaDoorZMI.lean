/- The plain laws: what the Lean functions of the walks come to. No program and no memory in sight. No condition beyond what each theorem says. -/
import Derived.Test.YtiddkhhcophbfaaDoorXMx2
import Derived.Test.YtiddkhhcophbfaaDoorXMx3
import Derived.Test.YtiddkhhcophbfaaDoorXMx4
import Derived.Test.YtiddkhhcophbfaaDoorXMx5
namespace Go.Proofs.YtiddkhhcophbfaaDoor.ZM
open Go.RowKit Go.Proofs.YtiddkhhcophbfaaDoor.XM Go.Proofs.YtiddkhhcophbfaaDoorW.PrintWords Go.Proofs.YtiddkhhcophbfaaDoorW.PrintLast
set_option linter.unusedVariables false
set_option linter.unusedSimpArgs false
theorem w64 {x : Int} (h0 : -9223372036854775808 ≤ x) (h1 : x < 9223372036854775808) : wrap64 x = x := by unfold wrap64; omega
/-- Not by rfl: so simp leaves a proof, and the kernel need not compare the two sides by running them. -/
theorem bs {α β : Type} (a : α) (f : α → Option β) : (some a).bind f = f a := by
  have h : ∀ o : Option α, o = some a → o.bind f = f a := by
    rintro _ rfl
    rfl
  exact h _ rfl
/-- A tone of the gamut. -/
def vld (s : Int) (b : Bool) : Bool := decide (0 ≤ s) && (decide (s ≤ 20) && (!b || (Int.tmod s 7 == 2)))
theorem vld_bd {s : Int} {b : Bool} (h : vld s b = true) : 0 ≤ s ∧ s ≤ 20 := by
  simp only [vld, Bool.and_eq_true, decide_eq_true_eq] at h
  exact ⟨h.1, h.2.1⟩
theorem spec_valid (s : Int) (b : Bool) : spec_ToneValid.f s b = some (vld s b) := by
  unfold spec_ToneValid.f spec_l6In.f spec_l1Letter.f vld
  by_cases h0 : 0 ≤ s
  · rw [if_pos h0, decide_eq_true h0]
    by_cases h1 : s ≤ 20
    · cases b <;> simp [h1]
    · simp [h1]
  · rw [if_neg h0, decide_eq_false h0]
    simp
theorem impl_valid (s : Int) (b : Bool) : impl_Tone_valid.f s b = some (vld s b) := by
  unfold impl_Tone_valid.f vld
  by_cases h0 : 0 ≤ s
  · rw [if_pos h0, decide_eq_true h0]
    by_cases h1 : s ≤ 20
    · cases b <;> simp [h1]
    · simp [h1]
  · rw [if_neg h0, decide_eq_false h0]
    simp
abbrev St := S31
abbrev Lt := S58
def cv (l : List Lt) : List St := l.map fun x => ⟨x.f0, x.f1⟩
theorem cv_len (l : List Lt) : (cv l).length = l.length := by simp [cv]
theorem w_succ {n : Nat} (h : n < 4611686018427387904) : wrap64 ((n : Int) + 1) = ((n + 1 : Nat) : Int) := by
  rw [w64 (by omega) (by omega)]; omega
theorem drop_at {α : Type} (l : List α) (n : Nat) (z : α) (h : n < l.length) : l.drop n = l.getD n z :: l.drop (n + 1) := by
  rw [List.drop_eq_getElem_cons h, List.getD_eq_getElem?_getD, List.getElem?_eq_getElem h]; rfl
theorem rd_s (l : List St) (n : Nat) : rd_T31 l (n : Int) = l.getD n z31 := by
  unfold rd_T31; rw [Int.toNat_natCast]
theorem rd_l (l : List Lt) (n : Nat) : rd_T58 l (n : Int) = l.getD n z58 := by
  unfold rd_T58; rw [Int.toNat_natCast]
theorem round {k d : Nat} (h : d < k) : ∃ m, k = m + 1 := ⟨k - 1, by omega⟩
theorem toTones_loop (l : List Lt) (hl : l.length ≤ 1048576) (d : Nat) : ∀ (k n : Nat) (x : List St), n + d = l.length → d < k → x.length = l.length →
    laws_toToneS.l0 k l x (n : Int) = some (x.take n ++ (cv l).drop n) := by
  induction d with
  | zero =>
    intro k n x hn hk hx
    obtain ⟨k, rfl⟩ := round hk
    simp only [laws_toToneS.l0]
    rw [if_neg (by omega), List.take_of_length_le (by omega), List.drop_eq_nil_of_le (by rw [cv_len]; omega), List.append_nil]
  | succ d ih =>
    intro k n x hn hk hx
    obtain ⟨k, rfl⟩ := round hk
    simp only [laws_toToneS.l0]
    rw [if_pos (by omega), if_pos (by omega)]
    unfold laws_toTone.f
    simp only [Option.bind_some]
    rw [if_pos (by omega), w_succ (by omega), Int.toNat_natCast, rd_l]
    rw [ih k (n + 1) _ (by omega) (by omega) (by simp [hx])]
    have h1 : n < (cv l).length := by rw [cv_len]; omega
    rw [drop_at (cv l) n ⟨0, false⟩ h1]
    congr 1
    have h2 : (cv l).getD n ⟨0, false⟩ = ⟨(l.getD n z58).f0, (l.getD n z58).f1⟩ := by
      have h3 : n < l.length := by omega
      simp [cv, List.getD_eq_getElem?_getD, List.getElem?_eq_getElem h3]
    rw [h2, List.take_add_one, List.take_set_of_le (Nat.le_refl _), List.getElem?_set_self (by omega)]
    simp
theorem toTones (l : List Lt) (hl : l.length ≤ 1048576) (k : Nat) (hk : l.length < k) : laws_toToneS.f k l = some (cv l) := by
  unfold laws_toToneS.f
  rw [if_pos (by omega), if_pos (by omega), Int.toNat_natCast]
  have := toTones_loop l hl l.length k 0 (List.replicate l.length z31) (by omega) hk (by simp)
  simpa using this
/-- A list is a melody. -/
def mv (l : List St) : Bool := l.all (fun t => vld t.f0 t.f1) && decide (l.length ≤ 24)
theorem specMelody_loop (l : List St) (hl : l.length ≤ 1048576) (d : Nat) : ∀ (k n : Nat), n + d = l.length → d < k →
    spec_MelodyValid.l0 k l (n : Int) = some ((l.drop n).all (fun t => vld t.f0 t.f1) && decide (l.length ≤ 24)) := by
  induction d with
  | zero =>
    intro k n hn hk
    obtain ⟨k, rfl⟩ := round hk
    simp only [spec_MelodyValid.l0]
    rw [if_neg (by omega), List.drop_eq_nil_of_le (by omega)]
    simp
    omega
  | succ d ih =>
    intro k n hn hk
    obtain ⟨k, rfl⟩ := round hk
    simp only [spec_MelodyValid.l0]
    rw [if_pos (by omega), if_pos (by omega), spec_valid, rd_s, w_succ (by omega), ih k (n + 1) (by omega) (by omega), drop_at l n z31 (by omega), List.all_cons]
    cases vld (l.getD n z31).f0 (l.getD n z31).f1 <;> simp
theorem specMelody (l : List St) (hl : l.length ≤ 1048576) (k : Nat) (hk : l.length < k) : spec_MelodyValid.f k l = some (mv l) := by
  unfold spec_MelodyValid.f mv
  have := specMelody_loop l hl l.length k 0 (by omega) hk
  simpa using this
theorem implMelody_loop (l : List St) (hl : l.length ≤ 1048576) (d : Nat) : ∀ (k n : Nat), n + d = l.length → d < k →
    impl_MelodyValid.l0 k l (l.length : Int) (n : Int) = some ((l.drop n).all (fun t => vld t.f0 t.f1)) := by
  induction d with
  | zero =>
    intro k n hn hk
    obtain ⟨k, rfl⟩ := round hk
    simp only [impl_MelodyValid.l0]
    rw [if_neg (by omega), List.drop_eq_nil_of_le (by omega)]
    simp
  | succ d ih =>
    intro k n hn hk
    obtain ⟨k, rfl⟩ := round hk
    simp only [impl_MelodyValid.l0]
    rw [if_pos (by omega), if_pos (by omega), if_pos (by omega), impl_valid, rd_s, w_succ (by omega), ih k (n + 1) (by omega) (by omega), drop_at l n z31 (by omega), List.all_cons]
    cases vld (l.getD n z31).f0 (l.getD n z31).f1 <;> simp
theorem implMelody (l : List St) (hl : l.length ≤ 1048576) (k : Nat) (hk : l.length < k) : impl_MelodyValid.f k l = some (mv l) := by
  unfold impl_MelodyValid.f mv
  by_cases h : (l.length : Int) > 24
  · rw [if_pos h, decide_eq_false (by omega)]; simp
  · rw [if_neg h, decide_eq_true (by omega)]
    have := implMelody_loop l hl l.length k 0 (by omega) hk
    simpa using this
theorem eqTone_self (s : Int) (b : Bool) : laws_eqTone.f s b s b = some true := by
  unfold laws_eqTone.f; simp
theorem eqTones_loop (l : List St) (hl : l.length ≤ 1048576) (d : Nat) : ∀ (k n : Nat), n + d = l.length → d < k → laws_eqToneS.l0 k l l (n : Int) = some true := by
  induction d with
  | zero =>
    intro k n hn hk
    obtain ⟨k, rfl⟩ := round hk
    simp only [laws_eqToneS.l0]
    rw [if_neg (by omega)]
  | succ d ih =>
    intro k n hn hk
    obtain ⟨k, rfl⟩ := round hk
    simp only [laws_eqToneS.l0]
    rw [if_pos (by omega), if_pos (by omega), if_pos (by omega), eqTone_self, w_succ (by omega), ih k (n + 1) (by omega) (by omega)]
    simp
theorem eqTones (l : List St) (hl : l.length ≤ 1048576) (k : Nat) (hk : l.length < k) : laws_eqToneS.f k l l = some true := by
  unfold laws_eqToneS.f
  rw [if_pos rfl]
  exact eqTones_loop l hl l.length k 0 (by omega) hk
theorem szTones (l : List Lt) (c : Int) (hc : 0 ≤ c ∧ c ≤ 1048576) (hm : l.length ≤ 9223372036854775807) : laws_szToneS.f l c = some (if c < l.length then -1 else c - l.length) := by
  unfold laws_szToneS.f
  rw [w64 (by omega) (by omega)]
  by_cases h : c < l.length
  · rw [if_pos (by omega), if_pos h]
  · rw [if_neg (by omega), if_neg h]
/-- The least and the greatest step of a melody. -/
def rng (l : List St) : Int × Int × Bool := if mv l = true then impl_MelodyRange.g l else (0, 0, false)
theorem implRange (l : List St) (hl : l.length ≤ 1048576) (k : Nat) (hk : l.length < k) : impl_MelodyRange.f k l = some (rng l) := by
  unfold impl_MelodyRange.f rng
  rw [implMelody l hl k hk]
  simp only [Option.bind_some]
  by_cases h : mv l = true
  · rw [if_pos h, if_pos h]
  · rw [if_neg h, if_neg h]
theorem specRange_loop (l : List St) (hl : l.length ≤ 1048576) (d : Nat) : ∀ (k n : Nat) (a b : Int), n + d = l.length → d < k →
    spec_MelodyRange.l0 k l a b (n : Int) = some ((rngFrom (l.drop n) a b).1, (rngFrom (l.drop n) a b).2, true) := by
  induction d with
  | zero =>
    intro k n a b hn hk
    obtain ⟨k, rfl⟩ := round hk
    simp only [spec_MelodyRange.l0]
    rw [if_neg (by omega), show l.drop n = [] from List.drop_eq_nil_of_le (by omega)]
    rfl
  | succ d ih =>
    intro k n a b hn hk
    obtain ⟨k, rfl⟩ := round hk
    simp only [spec_MelodyRange.l0]
    rw [if_pos (by omega), if_pos (by omega), rd_s, w_succ (by omega), ih k (n + 1) _ _ (by omega) (by omega), drop_at l n z31 (by omega)]
    rfl
theorem specRange (l : List St) (hl : l.length ≤ 1048576) (k : Nat) (hk : l.length + 1 < k) : spec_MelodyRange.f k l = some (rng l) := by
  unfold spec_MelodyRange.f rng
  obtain ⟨k, rfl⟩ := round (d := l.length + 1) hk
  rw [specMelody l hl _ (by omega)]
  simp only [Option.bind_some]
  by_cases h : mv l = true
  · rw [if_pos h, if_pos h]
    simp only [spec_MelodyRange.j0]
    cases l with
    | nil => rfl
    | cons t ts =>
      rw [if_neg (by simp; omega), if_pos (by simp)]
      exact specRange_loop (t :: ts) hl (t :: ts).length k 0 t.f0 t.f0 (by omega) (by omega)
  · rw [if_neg h, if_neg h]
    simp only [spec_MelodyRange.j0]
    rw [if_pos trivial]
theorem spec_mode (a : Int) (h : ¬ (1 ≤ a ∧ a ≤ 8)) : spec_l5Mode.f a = some false := by
  unfold spec_l5Mode.f spec_l6In.f
  by_cases h1 : a ≥ 1
  · rw [if_pos h1, decide_eq_false (by omega)]; rfl
  · rw [if_neg h1]; rfl
theorem impl_mode (a : Int) (h : ¬ (1 ≤ a ∧ a ≤ 8)) : impl_modeAt.f a = some (0, 0, 0, 0, false) := by
  unfold impl_modeAt.f
  rw [if_neg h]
theorem eight (P : Int → Prop) (h : ∀ n : Fin 8, P ((n.val : Int) + 1)) (a : Int) (ha : 1 ≤ a ∧ a ≤ 8) : P a := by
  have := h ⟨(a - 1).toNat, by omega⟩
  have e : (((a - 1).toNat : Nat) : Int) + 1 = a := by omega
  rw [← e]
  exact this
def modeChk (a : Int) : Bool := match impl_modeAt.f a with
  | some (f, _, lo, hi, ok) => ok && (decide (spec_ModeRange.f a = some (lo, hi, true)) && decide (spec_ModeFinal.f a = some f))
  | none => false
theorem mode_rows (a : Int) (ha : 1 ≤ a ∧ a ≤ 8) : ∃ f t lo hi, impl_modeAt.f a = some (f, t, lo, hi, true) ∧ spec_ModeRange.f a = some (lo, hi, true) ∧ spec_ModeFinal.f a = some f := by
  have h := eight (fun a => modeChk a = true) (by decide +kernel) a ha
  unfold modeChk at h
  cases e : impl_modeAt.f a with
  | none => rw [e] at h; cases h
  | some r =>
    obtain ⟨f, t, lo, hi, ok⟩ := r
    rw [e] at h
    simp only [Bool.and_eq_true, decide_eq_true_eq] at h
    obtain ⟨rfl, h1, h2⟩ := h
    exact ⟨f, t, lo, hi, rfl, h1, h2⟩
theorem modeIn_eq (l : List St) (a : Int) (hl : l.length ≤ 1048576) (k : Nat) (hk : l.length + 1 < k) : ∃ r, impl_ModeIn.f k l a = some r ∧ spec_ModeIn.f k l a = some r := by
  unfold impl_ModeIn.f spec_ModeIn.f
  rw [implRange l hl k (by omega), specRange l hl k hk]
  by_cases ha : 1 ≤ a ∧ a ≤ 8
  · obtain ⟨f, t, lo, hi, e1, e2, e3⟩ := mode_rows a ha
    rw [e1, e2]
    simp only [Option.bind_some]
    by_cases h0 : (rng l).2.2 = true
    · have hp : 0 < l.length := by
        cases l with
        | nil => exact absurd h0 (by decide)
        | cons x xs => simp
      have e4 : wrap64 ((l.length : Int) - 1) = ((l.length - 1 : Nat) : Int) := by rw [w64 (by omega) (by omega)]; omega
      have q0 : (0 : Int) ≤ ((l.length - 1 : Nat) : Int) := by omega
      have q1 : ((l.length - 1 : Nat) : Int) < (l.length : Int) := by omega
      rw [e4]
      simp only [if_pos h0, if_pos q0, if_pos q1, if_true, e3, rd_s, Option.bind_some]
      generalize l.getD (l.length - 1) z31 = x
      by_cases c1 : (rng l).1 < lo
      · rw [if_pos c1, if_neg (c := (rng l).1 ≥ lo) (by omega)]
        exact ⟨false, by split <;> (try split) <;> rfl, rfl⟩
      · rw [if_neg c1, if_pos (c := (rng l).1 ≥ lo) (by omega)]
        by_cases c2 : (rng l).2.1 > hi
        · rw [if_pos c2, decide_eq_false (by omega)]
          exact ⟨false, by split <;> (try split) <;> rfl, rfl⟩
        · rw [if_neg c2, decide_eq_true (by omega)]
          refine ⟨_, ?_, rfl⟩
          by_cases c3 : x.f0 = f
          · rw [if_pos c3, show (x.f0 == f) = true by simpa using c3]
            cases x.f1 <;> simp
          · rw [if_neg c3, show (x.f0 == f) = false by simpa using c3]
            rfl
    · rw [if_pos trivial, if_neg h0, if_neg h0]
      exact ⟨false, rfl, rfl⟩
  · have e2 : spec_ModeRange.f a = some (0, 0, false) := by
      unfold spec_ModeRange.f
      rw [spec_mode a ha]
      rfl
    rw [impl_mode a ha, e2]
    simp only [Option.bind_some]
    rw [if_neg (by simp)]
    refine ⟨false, rfl, ?_⟩
    split <;> simp
theorem FnExactModeIn (l : List Lt) (a : Int) (hm : l.length ≤ 9223372036854775807) (_ : ∀ x ∈ l, (Lit.int .i64 x.f0).wf = true ∧ True) (_ : (Lit.int .i64 a).wf = true) : ∃ k, laws_FnExactModeIn.f k l a = some true := by
  refine ⟨l.length + 9, ?_⟩
  unfold laws_FnExactModeIn.f
  rw [szTones l 1048576 (by omega) hm]
  simp only [Option.bind_some]
  by_cases h : (1048576 : Int) < l.length
  · rw [if_pos h, if_pos (by omega)]
  rw [if_neg h, if_neg (by omega)]
  have hl : l.length ≤ 1048576 := by omega
  have hc := cv_len l
  rw [toTones l hl _ (by omega)]
  simp only [Option.bind_some]
  obtain ⟨r, e1, e2⟩ := modeIn_eq (cv l) a (by omega) (l.length + 9) (by omega)
  rw [e1, e2]
  simp only [Option.bind_some]
  rw [if_neg (by simp), eqTones (cv l) (by omega) _ (by omega)]
  simp
end Go.Proofs.YtiddkhhcophbfaaDoor.ZM
