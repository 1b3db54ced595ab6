/- The plain laws: what the Lean functions of the walks come to. No program and no memory in sight. No condition beyond what each theorem says. -/
import Derived.Test.YtjoomlhlihcjkaaDoorXHx1
import Derived.Test.YtjoomlhlihcjkaaDoorXHx2
import Derived.Test.YtjoomlhlihcjkaaDoorXHx3
import Derived.Test.YtjoomlhlihcjkaaDoorXHx4
import Derived.Test.YtjoomlhlihcjkaaDoorXHx5
import Derived.Test.YtjoomlhlihcjkaaDoorXHx6
namespace Go.Proofs.YtjoomlhlihcjkaaDoor.ZH
open Go.RowKit Go.Proofs.YtjoomlhlihcjkaaDoor.XH Go.Proofs.YtjoomlhlihcjkaaDoorW.PrintWords Go.Proofs.YtjoomlhlihcjkaaDoorW.PrintLast
set_option linter.unusedVariables false
set_option linter.unusedSimpArgs false
theorem w64 {x : Int} (h0 : -9223372036854775808 ≤ x) (h1 : x < 9223372036854775808) : wrap64 x = x := by unfold wrap64; omega
/-- A tone of the gamut. -/
def vld (s : Int) (b : Bool) : Bool := decide (0 ≤ s) && (decide (s ≤ 20) && (!b || (Int.tmod s 7 == 2)))
theorem vld_bd {s : Int} {b : Bool} (h : vld s b = true) : 0 ≤ s ∧ s ≤ 20 := by
  simp only [vld, Bool.and_eq_true, decide_eq_true_eq] at h
  exact ⟨h.1, h.2.1⟩
theorem spec_valid (s : Int) (b : Bool) : spec_ToneValid.f s b = some (vld s b) := by
  unfold spec_ToneValid.f spec_l6In.f spec_l1Letter.f vld
  by_cases h0 : 0 ≤ s
  · rw [if_pos h0, decide_eq_true h0]
    by_cases h1 : s ≤ 20
    · cases b <;> simp [h1]
    · simp [h1]
  · rw [if_neg h0, decide_eq_false h0]
    simp
theorem impl_valid (s : Int) (b : Bool) : impl_Tone_valid.f s b = some (vld s b) := by
  unfold impl_Tone_valid.f vld
  by_cases h0 : 0 ≤ s
  · rw [if_pos h0, decide_eq_true h0]
    by_cases h1 : s ≤ 20
    · cases b <;> simp [h1]
    · simp [h1]
  · rw [if_neg h0, decide_eq_false h0]
    simp
theorem xor_i64 (a b : Int) (h1 : 0 ≤ a) (h2 : a < 4611686018427387904) (h3 : 0 ≤ b) (h4 : b < 4611686018427387904) : 0 ≤ Go.bits .xor .i64 a b := by
  obtain ⟨A, rfl⟩ := Int.eq_ofNat_of_zero_le h1
  obtain ⟨B, rfl⟩ := Int.eq_ofNat_of_zero_le h3
  have hA : (BitVec.ofInt 64 (A : Int)).toNat = A := by
    rw [BitVec.ofInt_natCast, BitVec.toNat_ofNat]; exact Nat.mod_eq_of_lt (by omega)
  have hB : (BitVec.ofInt 64 (B : Int)).toNat = B := by
    rw [BitVec.ofInt_natCast, BitVec.toNat_ofNat]; exact Nat.mod_eq_of_lt (by omega)
  have hx : A ^^^ B < 2 ^ 62 := Nat.xor_lt_two_pow (by omega) (by omega)
  show 0 ≤ IntKind.i64.wrap ((BitVec.ofInt 64 (A : Int) ^^^ BitVec.ofInt 64 (B : Int)).toNat : Int)
  rw [BitVec.toNat_xor, hA, hB, i64_w]
  unfold wrap64
  omega
/-- The bytes that are read. -/
def Bytes (l : List Int) : Prop := l.length ≤ 2000 ∧ ∀ x ∈ l, 0 ≤ x ∧ x ≤ 255
theorem rd_byte {l : List Int} (h : Bytes l) (i : Int) : 0 ≤ rd l i ∧ rd l i ≤ 255 := by
  unfold rd
  rw [List.getD_eq_getElem?_getD]
  cases hx : l[i.toNat]? with
  | none => simp
  | some x => exact h.2 x (List.mem_of_getElem? hx)
theorem pick_ok (k : Nat) {l : List Int} (h : Bytes l) (p n : Int) (hp : 0 ≤ p ∧ p ≤ 1000000) (hn : 1 ≤ n ∧ n ≤ 1000000) : ∃ v, spec_l6Rd_pick.f (k + 1) l p n = some (v, p + 1) ∧ 0 ≤ v ∧ v < n := by
  obtain ⟨hlen, hb⟩ := id h
  unfold spec_l6Rd_pick.f
  rw [if_neg (by omega), w64 (by omega) (by omega)]
  simp only [spec_l6Rd_pick.j0]
  by_cases h0 : (l.length : Int) = 0
  · rw [if_pos (by simpa using h0)]
    exact ⟨0, rfl, by omega, by omega⟩
  · rw [if_neg (by simpa using h0)]
    have hL : 0 < (l.length : Int) := by omega
    rw [show p + 1 - 1 = p by omega, w64 (x := p) (by omega) (by omega)]
    have fin : ∀ x : Int, 0 ≤ x → ∃ v, some (Int.tmod x n, p + 1) = some (v, p + 1) ∧ 0 ≤ v ∧ v < n := fun x hx =>
      ⟨_, rfl, by rw [Int.tmod_eq_emod_of_nonneg hx]; exact Int.emod_nonneg _ (by omega), by rw [Int.tmod_eq_emod_of_nonneg hx]; exact Int.emod_lt_of_pos _ (by omega)⟩
    by_cases h1 : p < (l.length : Int)
    · rw [if_pos h1, if_pos hp.1, if_neg (by omega)]
      have hr := rd_byte h p
      rw [w64 (by omega) (by omega)]
      exact fin _ hr.1
    · rw [if_neg h1, if_neg h0]
      have e1 : Int.tmod p (l.length : Int) = p % (l.length : Int) := Int.tmod_eq_emod_of_nonneg hp.1
      have m0 := Int.emod_nonneg p (show (l.length : Int) ≠ 0 by omega)
      have m1 := Int.emod_lt_of_pos p hL
      have e2 : Int.tmod (wrap64 (wrap64 (p * 7) + 3)) (l.length : Int) = (p * 7 + 3) % (l.length : Int) := by
        rw [w64 (x := p * 7) (by omega) (by omega), w64 (by omega) (by omega)]
        exact Int.tmod_eq_emod_of_nonneg (by omega)
      have n0 := Int.emod_nonneg (p * 7 + 3) (show (l.length : Int) ≠ 0 by omega)
      have n1 := Int.emod_lt_of_pos (p * 7 + 3) hL
      have e3 : Int.tdiv p (l.length : Int) = p / (l.length : Int) := Int.tdiv_eq_ediv_of_nonneg hp.1
      have d0 : 0 ≤ p / (l.length : Int) := Int.ediv_nonneg hp.1 (by omega)
      have d1 : p / (l.length : Int) ≤ p := Int.ediv_le_self _ hp.1
      rw [e1, e2, e3, if_pos m0, if_pos m1, if_pos n0, if_pos n1, if_neg (by omega)]
      have r1 := rd_byte h (p % (l.length : Int))
      have r2 := rd_byte h ((p * 7 + 3) % (l.length : Int))
      generalize rd l (p % (l.length : Int)) = a at r1 ⊢
      generalize rd l ((p * 7 + 3) % (l.length : Int)) = b at r2 ⊢
      generalize p / (l.length : Int) = d at d0 d1 ⊢
      have s1 : wrap64 (wrap64 (wrap64 (wrap64 (wrap64 a * 131) + wrap64 (wrap64 b * 1117)) + wrap64 (p * 29)) + wrap64 (wrap64 d * 53)) = a * 131 + b * 1117 + p * 29 + d * 53 := by
        rw [w64 (x := a) (by omega) (by omega), w64 (x := b) (by omega) (by omega), w64 (x := d) (by omega) (by omega), w64 (x := a * 131) (by omega) (by omega), w64 (x := b * 1117) (by omega) (by omega),
          w64 (x := p * 29) (by omega) (by omega), w64 (x := d * 53) (by omega) (by omega), w64 (x := a * 131 + b * 1117) (by omega) (by omega), w64 (x := a * 131 + b * 1117 + p * 29) (by omega) (by omega), w64 (by omega) (by omega)]
      rw [s1]
      refine fin _ (xor_i64 _ _ (by omega) (by omega) ?_ ?_)
      · rw [Int.tdiv_eq_ediv_of_nonneg (by omega), w64 (by omega) (by omega)]; omega
      · rw [Int.tdiv_eq_ediv_of_nonneg (by omega), w64 (by omega) (by omega)]; omega
theorem open_ok (l : List Int) (hw : ∀ x ∈ l, (Lit.int .u8 x).wf = true) : ∃ l', spec_l6Open.f l = some (l', 0) ∧ Bytes l' := by
  have hb : ∀ x ∈ l, 0 ≤ x ∧ x ≤ 255 := fun x hx => by
    have := hw x hx
    simp only [Lit.wf, IntKind.min, IntKind.max, IntKind.signed, IntKind.bits, Bool.and_eq_true, decide_eq_true_eq, Bool.false_eq_true, if_false] at this
    omega
  unfold spec_l6Open.f
  by_cases h : (l.length : Int) > 2000
  · rw [if_pos h, if_pos (by omega)]
    exact ⟨_, rfl, by simp; omega, fun x hx => hb x (List.mem_of_mem_take hx)⟩
  · rw [if_neg h]
    exact ⟨_, rfl, by omega, hb⟩
theorem tone_ok (k : Nat) {l : List Int} (h : Bytes l) (p : Int) (hp : 0 ≤ p ∧ p ≤ 900000) : ∃ s b q, spec_l91Tone.f (k + 1) l p = some (s, b, q) ∧ p ≤ q ∧ q ≤ p + 3 ∧ -1 ≤ s ∧ s ≤ 21 := by
  obtain ⟨v, e, h0, h1⟩ := pick_ok k h p 40 (by omega) (by omega)
  unfold spec_l91Tone.f
  rw [e]
  simp only [Option.bind_some]
  by_cases c0 : v = 0
  · rw [if_pos c0]
    obtain ⟨u, e2, g0, g1⟩ := pick_ok k h (p + 1) 4 (by omega) (by omega)
    rw [e2]
    simp only [Option.bind_some]
    rw [if_pos g0, if_pos (by simpa using g1)]
    refine ⟨_, _, _, rfl, by omega, by omega, ?_⟩
    obtain rfl | rfl | rfl | rfl : u = 0 ∨ u = 1 ∨ u = 2 ∨ u = 3 := by omega
    all_goals decide
  · rw [if_neg c0]
    by_cases c1 : v = 1
    · rw [if_pos c1]
      obtain ⟨u, e2, g0, g1⟩ := pick_ok k h (p + 1) 21 (by omega) (by omega)
      rw [e2]
      exact ⟨_, _, _, rfl, by omega, by omega, by omega, by omega⟩
    · rw [if_neg c1]
      obtain ⟨u, e2, g0, g1⟩ := pick_ok k h (p + 1) 11 (by omega) (by omega)
      rw [e2]
      simp only [Option.bind_some]
      rw [w64 (by omega) (by omega)]
      unfold spec_l1Letter.f
      simp only [Option.bind_some]
      by_cases c2 : Int.tmod (3 + u) 7 = 2
      · rw [if_pos c2]
        obtain ⟨t, e3, f0, f1⟩ := pick_ok k h (p + 1 + 1) 2 (by omega) (by omega)
        rw [e3]
        exact ⟨_, _, _, rfl, by omega, by omega, by omega, by omega⟩
      · rw [if_neg c2]
        exact ⟨_, _, _, rfl, by omega, by omega, by omega, by omega⟩
theorem in21 (P : Int → Prop) (h : ∀ n : Fin 21, P (n.val : Int)) (a : Int) (ha : 0 ≤ a ∧ a ≤ 20) : P a := by
  have := h ⟨a.toNat, by omega⟩
  have e : ((a.toNat : Nat) : Int) = a := by omega
  rw [← e]
  exact this
theorem vld_no {s : Int} (b : Bool) (h : ¬ (0 ≤ s ∧ s ≤ 20)) : vld s b = false := by
  cases hv : vld s b with
  | false => rfl
  | true => exact absurd (vld_bd hv) h
theorem FnExactToneHeight (s : Int) (b : Bool) (_ : (Lit.int .i64 s).wf = true ∧ True) : laws_FnExactToneHeight.f s b = some true := by
  by_cases h : 0 ≤ s ∧ s ≤ 20
  · exact in21 (fun s => ∀ b, laws_FnExactToneHeight.f s b = some true) (by decide +kernel) s h b
  · unfold laws_FnExactToneHeight.f laws_toTone.f impl_ToneHeight.f spec_ToneHeight.f
    simp only [Option.bind_some, spec_valid, impl_valid, vld_no b h]
    simp
theorem height_eq (s : Int) (b : Bool) (h : vld s b = true) : ∃ v, impl_Tone_height.f s b = some v ∧ spec_l1Height.f s b = some v ∧ 0 ≤ v ∧ v ≤ 40 - 6 := by
  have := in21 (fun s => ∀ b, vld s b = true → (impl_Tone_height.f s b).all (fun v => decide (0 ≤ v) && decide (v ≤ 34)) = true ∧ (impl_Tone_height.f s b).isSome = true ∧ impl_Tone_height.f s b = spec_l1Height.f s b) (by decide +kernel) s (vld_bd h) b h
  obtain ⟨h1, h2, h3⟩ := this
  obtain ⟨v, hv⟩ := Option.isSome_iff_exists.1 h2
  rw [hv] at h1
  simp at h1
  exact ⟨v, hv, h3 ▸ hv, h1.1, by omega⟩
theorem FnExactToneSemis (s : Int) (b : Bool) (s2 : Int) (b2 : Bool) (_ : (Lit.int .i64 s).wf = true ∧ True) (_ : (Lit.int .i64 s2).wf = true ∧ True) : ∃ k, laws_FnExactToneSemis.f k s b s2 b2 = some true := by
  refine ⟨1, ?_⟩
  unfold laws_FnExactToneSemis.f laws_toTone.f impl_ToneSemis.f spec_ToneSemis.f
  simp only [Option.bind_some, spec_valid, impl_valid, spec_ToneSemis.j0, impl_ToneSemis.j0]
  cases h : vld s b with
  | false => simp
  | true =>
    cases h2 : vld s2 b2 with
    | false => simp
    | true =>
      obtain ⟨v, e1, e2, _⟩ := height_eq s b h
      obtain ⟨u, e3, e4, _⟩ := height_eq s2 b2 h2
      simp [e1, e2, e3, e4]
theorem drawHeight_ok (k : Nat) (l : List Int) (hw : ∀ x ∈ l, (Lit.int .u8 x).wf = true) : ∃ s b, spec_DrawToneHeight.f (k + 1) l = some (s, b) ∧ -1 ≤ s ∧ s ≤ 21 := by
  obtain ⟨l', e, h⟩ := open_ok l hw
  unfold spec_DrawToneHeight.f
  rw [e]
  simp only [Option.bind_some]
  obtain ⟨s, b, q, e2, h1, h2, h3, h4⟩ := tone_ok k h 0 (by omega)
  rw [e2]
  exact ⟨s, b, rfl, h3, h4⟩
def hcore (k : Nat) (s : Int) (b : Bool) : Option Bool :=
  (impl_ToneHeight.f s b).bind fun bt192 => ((spec_ToneHeight.f s b).bind fun bt194 => (if (bt192.2 != bt194.2) = true then (laws_FnHeight.j0 k bt192.1 bt192.2 bt194.1 bt194.2 true s b) else (if bt192.1 = bt194.1 then (laws_FnHeight.j0 k bt192.1 bt192.2 bt194.1 bt194.2 (!bt192.2) s b) else (laws_FnHeight.j0 k bt192.1 bt192.2 bt194.1 bt194.2 true s b))))
theorem hcore_small : ∀ n : Fin 23, ∀ b : Bool, hcore 3 ((n.val : Int) - 1) b = some true := by decide +kernel
theorem FnHeight (l : List Int) (_ : l.length ≤ 9223372036854775807) (hw : ∀ x ∈ l, (Lit.int .u8 x).wf = true) : ∃ k, laws_FnHeight.f k l = some true := by
  refine ⟨3, ?_⟩
  unfold laws_FnHeight.f
  by_cases h : (l.length : Int) > 1048576
  · rw [if_pos h]
  rw [if_neg h]
  obtain ⟨s, b, e, h0, h1⟩ := drawHeight_ok 2 l hw
  rw [e]
  simp only [Option.bind_some]
  have := hcore_small ⟨(s + 1).toNat, by omega⟩ b
  rw [show (((s + 1).toNat : Nat) : Int) - 1 = s by omega] at this
  exact this
end Go.Proofs.YtjoomlhlihcjkaaDoor.ZH
