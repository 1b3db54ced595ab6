/- The plain laws: what the Lean functions of the walks come to. No program and no memory in sight. No condition beyond what each theorem says. -/
import Derived.Test.YtiddkhhcophbfaaXTx1
import Derived.Test.YtiddkhhcophbfaaXTx2
import Derived.Test.YtiddkhhcophbfaaXTx5
import Derived.Test.YtiddkhhcophbfaaXTx7
import Derived.Test.YtiddkhhcophbfaaXTx8
namespace Go.Proofs.Ytiddkhhcophbfaa.ZT
open Go.RowKit Go.Proofs.Ytiddkhhcophbfaa.XT Go.Proofs.YtiddkhhcophbfaaW.PrintWords Go.Proofs.YtiddkhhcophbfaaW.PrintLast
set_option linter.unusedVariables false
set_option linter.unusedSimpArgs false
theorem w64 {x : Int} (h0 : -9223372036854775808 ≤ x) (h1 : x < 9223372036854775808) : wrap64 x = x := by unfold wrap64; omega
/-- Not by rfl: so simp leaves a proof, and the kernel need not compare the two sides by running them. -/
theorem bs {α β : Type} (a : α) (f : α → Option β) : (some a).bind f = f a := by
  have h : ∀ o : Option α, o = some a → o.bind f = f a := by
    rintro _ rfl
    rfl
  exact h _ rfl
/-- A tone of the gamut. -/
def vld (s : Int) (b : Bool) : Bool := decide (0 ≤ s) && (decide (s ≤ 20) && (!b || (Int.tmod s 7 == 2)))
theorem vld_bd {s : Int} {b : Bool} (h : vld s b = true) : 0 ≤ s ∧ s ≤ 20 := by
  simp only [vld, Bool.and_eq_true, decide_eq_true_eq] at h
  exact ⟨h.1, h.2.1⟩
theorem spec_valid (s : Int) (b : Bool) : spec_ToneValid.f s b = some (vld s b) := by
  unfold spec_ToneValid.f spec_l6In.f spec_l1Letter.f vld
  by_cases h0 : 0 ≤ s
  · rw [if_pos h0, decide_eq_true h0]
    by_cases h1 : s ≤ 20
    · cases b <;> simp [h1]
    · simp [h1]
  · rw [if_neg h0, decide_eq_false h0]
    simp
theorem impl_valid (s : Int) (b : Bool) : impl_Tone_valid.f s b = some (vld s b) := by
  unfold impl_Tone_valid.f vld
  by_cases h0 : 0 ≤ s
  · rw [if_pos h0, decide_eq_true h0]
    by_cases h1 : s ≤ 20
    · cases b <;> simp [h1]
    · simp [h1]
  · rw [if_neg h0, decide_eq_false h0]
    simp
abbrev St := S34
abbrev Lt := S41
def cv (l : List Lt) : List St := l.map fun x => ⟨x.f0, x.f1⟩
theorem cv_len (l : List Lt) : (cv l).length = l.length := by simp [cv]
theorem w_succ {n : Nat} (h : n < 4611686018427387904) : wrap64 ((n : Int) + 1) = ((n + 1 : Nat) : Int) := by
  rw [w64 (by omega) (by omega)]; omega
theorem drop_at {α : Type} (l : List α) (n : Nat) (z : α) (h : n < l.length) : l.drop n = l.getD n z :: l.drop (n + 1) := by
  rw [List.drop_eq_getElem_cons h, List.getD_eq_getElem?_getD, List.getElem?_eq_getElem h]; rfl
theorem rd_s (l : List St) (n : Nat) : rd_T34 l (n : Int) = l.getD n z34 := by
  unfold rd_T34; rw [Int.toNat_natCast]
theorem rd_l (l : List Lt) (n : Nat) : rd_T41 l (n : Int) = l.getD n z41 := by
  unfold rd_T41; rw [Int.toNat_natCast]
theorem round {k d : Nat} (h : d < k) : ∃ m, k = m + 1 := ⟨k - 1, by omega⟩
theorem toTones_loop (l : List Lt) (hl : l.length ≤ 1048576) (d : Nat) : ∀ (k n : Nat) (x : List St), n + d = l.length → d < k → x.length = l.length →
    laws_toToneS.l0 k l x (n : Int) = some (x.take n ++ (cv l).drop n) := by
  induction d with
  | zero =>
    intro k n x hn hk hx
    obtain ⟨k, rfl⟩ := round hk
    simp only [laws_toToneS.l0]
    rw [if_neg (by omega), List.take_of_length_le (by omega), List.drop_eq_nil_of_le (by rw [cv_len]; omega), List.append_nil]
  | succ d ih =>
    intro k n x hn hk hx
    obtain ⟨k, rfl⟩ := round hk
    simp only [laws_toToneS.l0]
    rw [if_pos (by omega), if_pos (by omega)]
    unfold laws_toTone.f
    simp only [Option.bind_some]
    rw [if_pos (by omega), w_succ (by omega), Int.toNat_natCast, rd_l]
    rw [ih k (n + 1) _ (by omega) (by omega) (by simp [hx])]
    have h1 : n < (cv l).length := by rw [cv_len]; omega
    rw [drop_at (cv l) n ⟨0, false⟩ h1]
    congr 1
    have h2 : (cv l).getD n ⟨0, false⟩ = ⟨(l.getD n z41).f0, (l.getD n z41).f1⟩ := by
      have h3 : n < l.length := by omega
      simp [cv, List.getD_eq_getElem?_getD, List.getElem?_eq_getElem h3]
    rw [h2, List.take_add_one, List.take_set_of_le (Nat.le_refl _), List.getElem?_set_self (by omega)]
    simp
theorem toTones (l : List Lt) (hl : l.length ≤ 1048576) (k : Nat) (hk : l.length < k) : laws_toToneS.f k l = some (cv l) := by
  unfold laws_toToneS.f
  rw [if_pos (by omega), if_pos (by omega), Int.toNat_natCast]
  have := toTones_loop l hl l.length k 0 (List.replicate l.length z34) (by omega) hk (by simp)
  simpa using this
/-- A list is a melody. -/
def mv (l : List St) : Bool := l.all (fun t => vld t.f0 t.f1) && decide (l.length ≤ 24)
theorem specMelody_loop (l : List St) (hl : l.length ≤ 1048576) (d : Nat) : ∀ (k n : Nat), n + d = l.length → d < k →
    spec_MelodyValid.l0 k l (n : Int) = some ((l.drop n).all (fun t => vld t.f0 t.f1) && decide (l.length ≤ 24)) := by
  induction d with
  | zero =>
    intro k n hn hk
    obtain ⟨k, rfl⟩ := round hk
    simp only [spec_MelodyValid.l0]
    rw [if_neg (by omega), List.drop_eq_nil_of_le (by omega)]
    simp
    omega
  | succ d ih =>
    intro k n hn hk
    obtain ⟨k, rfl⟩ := round hk
    simp only [spec_MelodyValid.l0]
    rw [if_pos (by omega), if_pos (by omega), spec_valid, rd_s, w_succ (by omega), ih k (n + 1) (by omega) (by omega), drop_at l n z34 (by omega), List.all_cons]
    cases vld (l.getD n z34).f0 (l.getD n z34).f1 <;> simp
theorem specMelody (l : List St) (hl : l.length ≤ 1048576) (k : Nat) (hk : l.length < k) : spec_MelodyValid.f k l = some (mv l) := by
  unfold spec_MelodyValid.f mv
  have := specMelody_loop l hl l.length k 0 (by omega) hk
  simpa using this
theorem implMelody_loop (l : List St) (hl : l.length ≤ 1048576) (d : Nat) : ∀ (k n : Nat), n + d = l.length → d < k →
    impl_MelodyValid.l0 k l (l.length : Int) (n : Int) = some ((l.drop n).all (fun t => vld t.f0 t.f1)) := by
  induction d with
  | zero =>
    intro k n hn hk
    obtain ⟨k, rfl⟩ := round hk
    simp only [impl_MelodyValid.l0]
    rw [if_neg (by omega), List.drop_eq_nil_of_le (by omega)]
    simp
  | succ d ih =>
    intro k n hn hk
    obtain ⟨k, rfl⟩ := round hk
    simp only [impl_MelodyValid.l0]
    rw [if_pos (by omega), if_pos (by omega), if_pos (by omega), impl_valid, rd_s, w_succ (by omega), ih k (n + 1) (by omega) (by omega), drop_at l n z34 (by omega), List.all_cons]
    cases vld (l.getD n z34).f0 (l.getD n z34).f1 <;> simp
theorem implMelody (l : List St) (hl : l.length ≤ 1048576) (k : Nat) (hk : l.length < k) : impl_MelodyValid.f k l = some (mv l) := by
  unfold impl_MelodyValid.f mv
  by_cases h : (l.length : Int) > 24
  · rw [if_pos h, decide_eq_false (by omega)]; simp
  · rw [if_neg h, decide_eq_true (by omega)]
    have := implMelody_loop l hl l.length k 0 (by omega) hk
    simpa using this
theorem eqTone_self (s : Int) (b : Bool) : laws_eqTone.f s b s b = some true := by
  unfold laws_eqTone.f; simp
theorem eqTones_loop (l : List St) (hl : l.length ≤ 1048576) (d : Nat) : ∀ (k n : Nat), n + d = l.length → d < k → laws_eqToneS.l0 k l l (n : Int) = some true := by
  induction d with
  | zero =>
    intro k n hn hk
    obtain ⟨k, rfl⟩ := round hk
    simp only [laws_eqToneS.l0]
    rw [if_neg (by omega)]
  | succ d ih =>
    intro k n hn hk
    obtain ⟨k, rfl⟩ := round hk
    simp only [laws_eqToneS.l0]
    rw [if_pos (by omega), if_pos (by omega), if_pos (by omega), eqTone_self, w_succ (by omega), ih k (n + 1) (by omega) (by omega)]
    simp
theorem eqTones (l : List St) (hl : l.length ≤ 1048576) (k : Nat) (hk : l.length < k) : laws_eqToneS.f k l l = some true := by
  unfold laws_eqToneS.f
  rw [if_pos rfl]
  exact eqTones_loop l hl l.length k 0 (by omega) hk
theorem szTones (l : List Lt) (c : Int) (hc : 0 ≤ c ∧ c ≤ 1048576) (hm : l.length ≤ 9223372036854775807) : laws_szToneS.f l c = some (if c < l.length then -1 else c - l.length) := by
  unfold laws_szToneS.f
  rw [w64 (by omega) (by omega)]
  by_cases h : c < l.length
  · rw [if_pos (by omega), if_pos h]
  · rw [if_neg (by omega), if_neg h]
/-- The least and the greatest step of a melody. -/
def rng (l : List St) : Int × Int × Bool := if mv l = true then impl_MelodyRange.g l else (0, 0, false)
theorem implRange (l : List St) (hl : l.length ≤ 1048576) (k : Nat) (hk : l.length < k) : impl_MelodyRange.f k l = some (rng l) := by
  unfold impl_MelodyRange.f rng
  rw [implMelody l hl k hk]
  simp only [Option.bind_some]
  by_cases h : mv l = true
  · rw [if_pos h, if_pos h]
  · rw [if_neg h, if_neg h]
theorem specRange_loop (l : List St) (hl : l.length ≤ 1048576) (d : Nat) : ∀ (k n : Nat) (a b : Int), n + d = l.length → d < k →
    spec_MelodyRange.l0 k l a b (n : Int) = some ((rngFrom (l.drop n) a b).1, (rngFrom (l.drop n) a b).2, true) := by
  induction d with
  | zero =>
    intro k n a b hn hk
    obtain ⟨k, rfl⟩ := round hk
    simp only [spec_MelodyRange.l0]
    rw [if_neg (by omega), show l.drop n = [] from List.drop_eq_nil_of_le (by omega)]
    rfl
  | succ d ih =>
    intro k n a b hn hk
    obtain ⟨k, rfl⟩ := round hk
    simp only [spec_MelodyRange.l0]
    rw [if_pos (by omega), if_pos (by omega), rd_s, w_succ (by omega), ih k (n + 1) _ _ (by omega) (by omega), drop_at l n z34 (by omega)]
    rfl
theorem specRange (l : List St) (hl : l.length ≤ 1048576) (k : Nat) (hk : l.length + 1 < k) : spec_MelodyRange.f k l = some (rng l) := by
  unfold spec_MelodyRange.f rng
  obtain ⟨k, rfl⟩ := round (d := l.length + 1) hk
  rw [specMelody l hl _ (by omega)]
  simp only [Option.bind_some]
  by_cases h : mv l = true
  · rw [if_pos h, if_pos h]
    simp only [spec_MelodyRange.j0]
    cases l with
    | nil => rfl
    | cons t ts =>
      rw [if_neg (by simp; omega), if_pos (by simp)]
      exact specRange_loop (t :: ts) hl (t :: ts).length k 0 t.f0 t.f0 (by omega) (by omega)
  · rw [if_neg h, if_neg h]
    simp only [spec_MelodyRange.j0]
    rw [if_pos trivial]
theorem rd_s' (l : List St) (n : Nat) (h : n < l.length) : (⟨(rd_T34 l (n : Int)).f0, (rd_T34 l (n : Int)).f1⟩ : St) = l.getD n z34 := by rw [rd_s]
theorem implBack_loop (l : List St) (hl : l.length ≤ 1048576) (d : Nat) : ∀ (k n : Nat) (x : List St), n + d = l.length → d < k → x.length = l.length →
    impl_MelodyBack.l0 k l x l (l.length : Int) (n : Int) = some ((l.drop n).reverse ++ x.drop (l.length - n), true) := by
  induction d with
  | zero =>
    intro k n x hn hk hx
    obtain ⟨k, rfl⟩ := round hk
    simp only [impl_MelodyBack.l0]
    rw [if_neg (by omega), show l.drop n = [] from List.drop_eq_nil_of_le (by omega), show l.length - n = 0 by omega]
    simp
  | succ d ih =>
    intro k n x hn hk hx
    obtain ⟨k, rfl⟩ := round hk
    simp only [impl_MelodyBack.l0]
    have e : wrap64 (wrap64 ((l.length : Int) - 1) - (n : Int)) = ((l.length - 1 - n : Nat) : Int) := by
      rw [w64 (x := (l.length : Int) - 1) (by omega) (by omega), w64 (by omega) (by omega)]; omega
    rw [e, if_pos (by omega), if_pos (by omega), if_pos (by omega), if_pos (by omega), if_pos (by omega), rd_s' l n (by omega), Int.toNat_natCast, w_succ (by omega)]
    rw [ih k (n + 1) _ (by omega) (by omega) (by simp [hx])]
    have h1 : l.length - 1 - n < x.length := by omega
    rw [drop_at l n z34 (by omega), List.reverse_cons, List.append_assoc]
    congr 3
    rw [show l.length - (n + 1) = l.length - 1 - n by omega, drop_at _ (l.length - 1 - n) z34 (by simp; omega), List.drop_set_of_lt (by omega), show l.length - 1 - n + 1 = l.length - n by omega]
    rw [List.getD_eq_getElem?_getD (l := x.set _ _), List.getElem?_set_self h1]
    rfl
theorem implBack (l : List St) (hl : l.length ≤ 1048576) (k : Nat) (hk : l.length < k) : impl_MelodyBack.f k l = some (if mv l = true then (l.reverse, true) else ([], false)) := by
  unfold impl_MelodyBack.f
  rw [implMelody l hl k hk]
  simp only [Option.bind_some]
  by_cases h : mv l = true
  · rw [if_pos h, if_pos h, if_pos (by omega), if_pos (by omega), Int.toNat_natCast]
    have := implBack_loop l hl l.length k 0 (List.replicate l.length z34) (by omega) hk (by simp)
    simpa using this
  · rw [if_neg h, if_neg h]
theorem back_len (l : List St) : (if mv l = true then (l.reverse, true) else ([], false) : List St × Bool).1.length ≤ l.length := by
  split <;> simp
theorem xor_i64 (a b : Int) (h1 : 0 ≤ a) (h2 : a < 4611686018427387904) (h3 : 0 ≤ b) (h4 : b < 4611686018427387904) : 0 ≤ Go.bits .xor .i64 a b := by
  obtain ⟨A, rfl⟩ := Int.eq_ofNat_of_zero_le h1
  obtain ⟨B, rfl⟩ := Int.eq_ofNat_of_zero_le h3
  have hA : (BitVec.ofInt 64 (A : Int)).toNat = A := by
    rw [BitVec.ofInt_natCast, BitVec.toNat_ofNat]; exact Nat.mod_eq_of_lt (by omega)
  have hB : (BitVec.ofInt 64 (B : Int)).toNat = B := by
    rw [BitVec.ofInt_natCast, BitVec.toNat_ofNat]; exact Nat.mod_eq_of_lt (by omega)
  have hx : A ^^^ B < 2 ^ 62 := Nat.xor_lt_two_pow (by omega) (by omega)
  show 0 ≤ IntKind.i64.wrap ((BitVec.ofInt 64 (A : Int) ^^^ BitVec.ofInt 64 (B : Int)).toNat : Int)
  rw [BitVec.toNat_xor, hA, hB, i64_w]
  unfold wrap64
  omega
/-- The bytes that are read. -/
def Bytes (l : List Int) : Prop := l.length ≤ 2000 ∧ ∀ x ∈ l, 0 ≤ x ∧ x ≤ 255
theorem rd_byte {l : List Int} (h : Bytes l) (i : Int) : 0 ≤ rd l i ∧ rd l i ≤ 255 := by
  unfold rd
  rw [List.getD_eq_getElem?_getD]
  cases hx : l[i.toNat]? with
  | none => simp
  | some x => exact h.2 x (List.mem_of_getElem? hx)
theorem pick_ok (k : Nat) {l : List Int} (h : Bytes l) (p n : Int) (hp : 0 ≤ p ∧ p ≤ 1000000) (hn : 1 ≤ n ∧ n ≤ 1000000) : ∃ v, spec_l6Rd_pick.f (k + 1) l p n = some (v, p + 1) ∧ 0 ≤ v ∧ v < n := by
  obtain ⟨hlen, hb⟩ := id h
  unfold spec_l6Rd_pick.f
  rw [if_neg (by omega), w64 (by omega) (by omega)]
  simp only [spec_l6Rd_pick.j0]
  by_cases h0 : (l.length : Int) = 0
  · rw [if_pos (by simpa using h0)]
    exact ⟨0, rfl, by omega, by omega⟩
  · rw [if_neg (by simpa using h0)]
    have hL : 0 < (l.length : Int) := by omega
    rw [show p + 1 - 1 = p by omega, w64 (x := p) (by omega) (by omega)]
    have fin : ∀ x : Int, 0 ≤ x → ∃ v, some (Int.tmod x n, p + 1) = some (v, p + 1) ∧ 0 ≤ v ∧ v < n := fun x hx =>
      ⟨_, rfl, by rw [Int.tmod_eq_emod_of_nonneg hx]; exact Int.emod_nonneg _ (by omega), by rw [Int.tmod_eq_emod_of_nonneg hx]; exact Int.emod_lt_of_pos _ (by omega)⟩
    by_cases h1 : p < (l.length : Int)
    · rw [if_pos h1, if_pos hp.1, if_neg (by omega)]
      have hr := rd_byte h p
      rw [w64 (by omega) (by omega)]
      exact fin _ hr.1
    · rw [if_neg h1, if_neg h0]
      have e1 : Int.tmod p (l.length : Int) = p % (l.length : Int) := Int.tmod_eq_emod_of_nonneg hp.1
      have m0 := Int.emod_nonneg p (show (l.length : Int) ≠ 0 by omega)
      have m1 := Int.emod_lt_of_pos p hL
      have e2 : Int.tmod (wrap64 (wrap64 (p * 7) + 3)) (l.length : Int) = (p * 7 + 3) % (l.length : Int) := by
        rw [w64 (x := p * 7) (by omega) (by omega), w64 (by omega) (by omega)]
        exact Int.tmod_eq_emod_of_nonneg (by omega)
      have n0 := Int.emod_nonneg (p * 7 + 3) (show (l.length : Int) ≠ 0 by omega)
      have n1 := Int.emod_lt_of_pos (p * 7 + 3) hL
      have e3 : Int.tdiv p (l.length : Int) = p / (l.length : Int) := Int.tdiv_eq_ediv_of_nonneg hp.1
      have d0 : 0 ≤ p / (l.length : Int) := Int.ediv_nonneg hp.1 (by omega)
      have d1 : p / (l.length : Int) ≤ p := Int.ediv_le_self _ hp.1
      rw [e1, e2, e3, if_pos m0, if_pos m1, if_pos n0, if_pos n1, if_neg (by omega)]
      have r1 := rd_byte h (p % (l.length : Int))
      have r2 := rd_byte h ((p * 7 + 3) % (l.length : Int))
      generalize rd l (p % (l.length : Int)) = a at r1 ⊢
      generalize rd l ((p * 7 + 3) % (l.length : Int)) = b at r2 ⊢
      generalize p / (l.length : Int) = d at d0 d1 ⊢
      have s1 : wrap64 (wrap64 (wrap64 (wrap64 (wrap64 a * 131) + wrap64 (wrap64 b * 1117)) + wrap64 (p * 29)) + wrap64 (wrap64 d * 53)) = a * 131 + b * 1117 + p * 29 + d * 53 := by
        rw [w64 (x := a) (by omega) (by omega), w64 (x := b) (by omega) (by omega), w64 (x := d) (by omega) (by omega), w64 (x := a * 131) (by omega) (by omega), w64 (x := b * 1117) (by omega) (by omega),
          w64 (x := p * 29) (by omega) (by omega), w64 (x := d * 53) (by omega) (by omega), w64 (x := a * 131 + b * 1117) (by omega) (by omega), w64 (x := a * 131 + b * 1117 + p * 29) (by omega) (by omega), w64 (by omega) (by omega)]
      rw [s1]
      refine fin _ (xor_i64 _ _ (by omega) (by omega) ?_ ?_)
      · rw [Int.tdiv_eq_ediv_of_nonneg (by omega), w64 (by omega) (by omega)]; omega
      · rw [Int.tdiv_eq_ediv_of_nonneg (by omega), w64 (by omega) (by omega)]; omega
theorem open_ok (l : List Int) (hw : ∀ x ∈ l, (Lit.int .u8 x).wf = true) : ∃ l', spec_l6Open.f l = some (l', 0) ∧ Bytes l' := by
  have hb : ∀ x ∈ l, 0 ≤ x ∧ x ≤ 255 := fun x hx => by
    have := hw x hx
    simp only [Lit.wf, IntKind.min, IntKind.max, IntKind.signed, IntKind.bits, Bool.and_eq_true, decide_eq_true_eq, Bool.false_eq_true, if_false] at this
    omega
  unfold spec_l6Open.f
  by_cases h : (l.length : Int) > 2000
  · rw [if_pos h, if_pos (by omega)]
    exact ⟨_, rfl, by simp; omega, fun x hx => hb x (List.mem_of_mem_take hx)⟩
  · rw [if_neg h]
    exact ⟨_, rfl, by omega, hb⟩
theorem step_bd (x : Int) : 1 ≤ mx 1 (mn 15 x) ∧ mx 1 (mn 15 x) ≤ 15 := by
  unfold mx mn
  split <;> split <;> omega
theorem l91_loop {b : List Int} (h : Bytes b) (n : Int) (h0 : 0 ≤ n) (h10 : n ≤ 10) (d : Nat) : ∀ (k i : Nat) (x : List St) (s p : Int), (i : Int) + d = n → d + 1 < k → x.length = i → 1 ≤ s ∧ s ≤ 15 → 0 ≤ p ∧ p ≤ 1000 - 3 * (d : Int) →
    ∃ m q, spec_l91Melody.l0 k x n s (i : Int) b p = some (m, q) ∧ (m.length : Int) = n := by
  induction d with
  | zero =>
    intro k i x s p hi hk hx hs hp
    obtain ⟨k, rfl⟩ : ∃ j, k = j + 2 := ⟨k - 2, by omega⟩
    simp only [spec_l91Melody.l0]
    rw [if_neg (by omega)]
    by_cases c : n > 0
    · rw [if_pos c]
      obtain ⟨v, e, v0, v1⟩ := pick_ok k h p 50 (by omega) (by omega)
      rw [e]
      simp only [Option.bind_some]
      by_cases c0 : v = 0
      · rw [if_pos c0]
        obtain ⟨u, e2, u0, u1⟩ := pick_ok k h (p + 1) 3 (by omega) (by omega)
        rw [e2]
        simp only [Option.bind_some]
        rw [if_pos u0, if_pos (by simpa using u1), if_pos (by omega)]
        exact ⟨_, _, rfl, by simp; omega⟩
      · rw [if_neg c0]
        by_cases c1 : v = 1
        · rw [if_pos c1, w64 (by omega) (by omega), if_pos (by omega), if_pos (by omega)]
          exact ⟨_, _, rfl, by simp; omega⟩
        · rw [if_neg c1]
          exact ⟨_, _, rfl, by omega⟩
    · rw [if_neg c]
      exact ⟨_, _, rfl, by omega⟩
  | succ d ih =>
    intro k i x s p hi hk hx hs hp
    obtain ⟨k, rfl⟩ : ∃ j, k = j + 2 := ⟨k - 2, by omega⟩
    simp only [spec_l91Melody.l0]
    rw [if_pos (by omega)]
    unfold spec_l1Letter.f
    simp only [Option.bind_some]
    by_cases c2 : Int.tmod s 7 = 2
    · rw [if_pos c2]
      obtain ⟨v, e, v0, v1⟩ := pick_ok k h p 3 (by omega) (by omega)
      rw [e]
      simp only [Option.bind_some]
      rw [if_pos (by omega)]
      obtain ⟨u, e2, u0, u1⟩ := pick_ok k h (p + 1) 5 (by omega) (by omega)
      rw [e2]
      simp only [Option.bind_some]
      rw [w_succ (by omega)]
      exact ih (k + 1) (i + 1) _ _ _ (by omega) (by omega) (by simp; omega) (step_bd _) (by omega)
    · rw [if_neg c2, if_pos (by omega)]
      obtain ⟨u, e2, u0, u1⟩ := pick_ok k h p 5 (by omega) (by omega)
      rw [e2]
      simp only [Option.bind_some]
      rw [w_succ (by omega)]
      exact ih (k + 1) (i + 1) _ _ _ (by omega) (by omega) (by simp; omega) (step_bd _) (by omega)
theorem l91_ok (k : Nat) {b : List Int} (h : Bytes b) : ∃ m q, spec_l91Melody.f (k + 15) b 0 10 = some (m, q) ∧ m.length ≤ 10 := by
  unfold spec_l91Melody.f
  rw [w64 (by omega) (by omega)]
  obtain ⟨v, e, v0, v1⟩ := pick_ok (k + 14) h 0 11 (by omega) (by omega)
  rw [show (10 : Int) + 1 = 11 by omega, e]
  simp only [Option.bind_some]
  obtain ⟨u, e2, u0, u1⟩ := pick_ok (k + 14) h (0 + 1) 5 (by omega) (by omega)
  rw [e2]
  simp only [Option.bind_some]
  rw [w64 (by omega) (by omega)]
  obtain ⟨m, q, e3, hm⟩ := l91_loop h v v0 (by omega) v.toNat (k + 15) 0 [] (4 + u) (0 + 1 + 1) (by omega) (by omega) rfl (by omega) (by omega)
  exact ⟨m, q, e3, by omega⟩
theorem draw_range (k : Nat) (l : List Int) (hw : ∀ x ∈ l, (Lit.int .u8 x).wf = true) : ∃ m, spec_DrawMelodyRange.f (k + 15) l = some m ∧ m.length ≤ 10 := by
  unfold spec_DrawMelodyRange.f
  obtain ⟨b, e, hb⟩ := open_ok l hw
  rw [e]
  simp only [Option.bind_some]
  obtain ⟨m, q, e2, hm⟩ := l91_ok k hb
  rw [e2]
  exact ⟨m, rfl, hm⟩
/-- Both ends lie in the list or are what was known, and nothing is beyond them. -/
theorem rngFrom_ok : ∀ (l : List St) (a b : Int), a ≤ b → (rngFrom l a b).1 ≤ a ∧ b ≤ (rngFrom l a b).2 ∧ (∀ t ∈ l, (rngFrom l a b).1 ≤ t.f0 ∧ t.f0 ≤ (rngFrom l a b).2) ∧
    ((rngFrom l a b).1 = a ∨ ∃ t ∈ l, t.f0 = (rngFrom l a b).1) ∧ ((rngFrom l a b).2 = b ∨ ∃ t ∈ l, t.f0 = (rngFrom l a b).2)
  | [], a, b, h => by simp [rngFrom]
  | t :: ts, a, b, h => by
    have hmn : mn a t.f0 ≤ a ∧ mn a t.f0 ≤ t.f0 ∧ (mn a t.f0 = a ∨ mn a t.f0 = t.f0) := by unfold mn; split <;> omega
    have hmx : b ≤ mx b t.f0 ∧ t.f0 ≤ mx b t.f0 ∧ (mx b t.f0 = b ∨ mx b t.f0 = t.f0) := by unfold mx; split <;> omega
    obtain ⟨h1, h2, h3, h4, h5⟩ := rngFrom_ok ts (mn a t.f0) (mx b t.f0) (by omega)
    simp only [rngFrom]
    refine ⟨by omega, by omega, ?_, ?_, ?_⟩
    · intro u hu
      rcases List.mem_cons.1 hu with rfl | hu
      · constructor <;> omega
      · exact h3 u hu
    · rcases h4 with h4 | ⟨u, hu, e⟩
      · rcases hmn.2.2 with e | e
        · exact .inl (by omega)
        · exact .inr ⟨t, by simp, by omega⟩
      · exact .inr ⟨u, List.mem_cons_of_mem _ hu, e⟩
    · rcases h5 with h5 | ⟨u, hu, e⟩
      · rcases hmx.2.2 with e | e
        · exact .inl (by omega)
        · exact .inr ⟨t, by simp, by omega⟩
      · exact .inr ⟨u, List.mem_cons_of_mem _ hu, e⟩
/-- Of a list that is not empty: the two ends. -/
theorem g_ok (l : List St) (hl : 0 < l.length) : ∃ a b, impl_MelodyRange.g l = (a, b, true) ∧ (∀ t ∈ l, a ≤ t.f0 ∧ t.f0 ≤ b) ∧ (∃ t ∈ l, t.f0 = a) ∧ (∃ t ∈ l, t.f0 = b) := by
  cases l with
  | nil => simp at hl
  | cons t ts =>
    obtain ⟨h1, h2, h3, h4, h5⟩ := rngFrom_ok (t :: ts) t.f0 t.f0 (Int.le_refl _)
    refine ⟨_, _, rfl, h3, ?_, ?_⟩
    · rcases h4 with e | e
      · exact ⟨t, by simp, e.symm⟩
      · exact e
    · rcases h5 with e | e
      · exact ⟨t, by simp, e.symm⟩
      · exact e
theorem g_uniq {l : List St} {a b a' b' : Int} {P : St → Prop} (h : ∀ t ∈ l, a ≤ t.f0 ∧ t.f0 ≤ b) (h1 : ∃ t ∈ l, t.f0 = a) (h2 : ∃ t ∈ l, t.f0 = b) (h' : ∀ t ∈ l, a' ≤ t.f0 ∧ t.f0 ≤ b') (h1' : ∃ t ∈ l, t.f0 = a') (h2' : ∃ t ∈ l, t.f0 = b') : a = a' ∧ b = b' := by
  obtain ⟨t1, m1, e1⟩ := h1
  obtain ⟨t2, m2, e2⟩ := h2
  obtain ⟨t3, m3, e3⟩ := h1'
  obtain ⟨t4, m4, e4⟩ := h2'
  have := h t3 m3
  have := h t4 m4
  have := h' t1 m1
  have := h' t2 m2
  omega
theorem mv_rev (l : List St) : mv l.reverse = mv l := by
  simp [mv]
theorem rangeLoop (l : List St) (hl : l.length ≤ 1000) (a b : Int) (hb : ∀ t ∈ l, a ≤ t.f0 ∧ t.f0 ≤ b) (hr : mv l = true) (hg : rng l.reverse = (a, b, true)) (d : Nat) : ∀ (k n : Nat) (x y : Bool), n + d = l.length → d + l.length + 1 < k →
    (x = true ∨ ∃ t ∈ l.drop n, t.f0 = a) → (y = true ∨ ∃ t ∈ l.drop n, t.f0 = b) → laws_FnMelodyRange.l0 k l a b x y (n : Int) = some true := by
  induction d with
  | zero =>
    intro k n x y hn hk hx hy
    obtain ⟨k, rfl⟩ := round hk
    simp only [laws_FnMelodyRange.l0]
    rw [show l.drop n = [] from List.drop_eq_nil_of_le (by omega)] at hx hy
    simp at hx hy
    subst hx hy
    rw [if_neg (by omega), implBack l (by omega) k (by omega), if_pos hr]
    simp only [Option.bind_some]
    rw [implRange l.reverse (by simp; omega) k (by simp; omega), hg]
    simp
  | succ d ih =>
    intro k n x y hn hk hx hy
    obtain ⟨k, rfl⟩ : ∃ j, k = j + 1 := ⟨k - 1, by omega⟩
    simp only [laws_FnMelodyRange.l0]
    have hn1 : n < l.length := by omega
    rw [if_pos (by omega), if_pos (by omega), rd_s, w_succ (by omega)]
    have hmem : l.getD n z34 ∈ l := by rw [List.getD_eq_getElem?_getD, List.getElem?_eq_getElem hn1]; exact List.getElem_mem hn1
    have hbd := hb _ hmem
    rw [drop_at l n z34 hn1] at hx hy
    generalize l.getD n z34 = t at hx hy hbd
    rw [if_neg (by omega), if_neg (by omega)]
    have hx2 : x = true ∨ (t.f0 == a) = true ∨ ∃ t ∈ l.drop (n + 1), t.f0 = a := by
      rcases hx with e | ⟨u, hu, e⟩
      · exact .inl e
      · rcases List.mem_cons.1 hu with rfl | hu
        · exact .inr (.inl (by simpa using e))
        · exact .inr (.inr ⟨u, hu, e⟩)
    have hy2 : y = true ∨ (t.f0 == b) = true ∨ ∃ t ∈ l.drop (n + 1), t.f0 = b := by
      rcases hy with e | ⟨u, hu, e⟩
      · exact .inl e
      · rcases List.mem_cons.1 hu with rfl | hu
        · exact .inr (.inl (by simpa using e))
        · exact .inr (.inr ⟨u, hu, e⟩)
    cases x <;> cases y <;> simp only [Bool.false_eq_true, if_false, if_true, false_or] at hx2 hy2 ⊢
    · exact ih k (n + 1) _ _ (by omega) (by omega) hx2 hy2
    · exact ih k (n + 1) _ _ (by omega) (by omega) hx2 (.inl rfl)
    · exact ih k (n + 1) _ _ (by omega) (by omega) (.inl rfl) hy2
    · exact ih k (n + 1) _ _ (by omega) (by omega) (.inl rfl) (.inl rfl)
theorem FnMelodyRange (l : List Int) (hm : l.length ≤ 9223372036854775807) (hw : ∀ x ∈ l, (Lit.int .u8 x).wf = true) : ∃ k, laws_FnMelodyRange.f k l = some true := by
  refine ⟨100 + 15, ?_⟩
  unfold laws_FnMelodyRange.f
  by_cases h : (l.length : Int) > 1048576
  · rw [if_pos h]
  rw [if_neg h]
  obtain ⟨m, e, hl⟩ := draw_range 100 l hw
  rw [e]
  simp only [Option.bind_some]
  rw [implRange m (by omega) _ (by omega)]
  simp only [Option.bind_some]
  rw [specRange m (by omega) _ (by omega)]
  simp only [Option.bind_some]
  rw [show ((rng m).2.2 != (rng m).2.2) = false by simp, if_neg (by simp), if_pos trivial, if_pos trivial]
  simp only [laws_FnMelodyRange.j0]
  by_cases hv : mv m = true
  · by_cases hz : m.length = 0
    · obtain rfl : m = [] := List.eq_nil_of_length_eq_zero hz
      rw [if_pos (by rfl)]
      rw [if_pos (by simp), if_pos trivial]
      simp
    · obtain ⟨a, b, hg, h1, h2, h3⟩ := g_ok m (by omega)
      obtain ⟨a', b', hg', h1', h2', h3'⟩ := g_ok m.reverse (by simp; omega)
      obtain ⟨rfl, rfl⟩ := g_uniq (P := fun _ => True) h1 h2 h3 (fun t ht => h1' t (by simpa using ht)) (by simpa using h2') (by simpa using h3')
      have e1 : rng m = (a, b, true) := by unfold rng; rw [if_pos hv]; exact hg
      have e2 : rng m.reverse = (a, b, true) := by unfold rng; rw [mv_rev, if_pos hv]; exact hg'
      rw [e1, if_neg (by simp)]
      exact rangeLoop m (by omega) a b h1 hv e2 m.length _ 0 false false (by omega) (by omega) (.inr h2) (.inr h3)
  · have e1 : rng m = (0, 0, false) := by unfold rng; rw [if_neg hv]
    rw [e1, if_pos (by rfl)]
    simp
end Go.Proofs.Ytiddkhhcophbfaa.ZT
