/- The plain laws: what the Lean functions of the walks come to. No program and no memory in sight. No condition beyond what each theorem says. -/
import Derived.Test.YtiddkhhcophbfaaDoorXHx2
import Derived.Test.YtiddkhhcophbfaaDoorXHx3
import Derived.Test.YtiddkhhcophbfaaDoorXHx4
import Derived.Test.YtiddkhhcophbfaaDoorXHx8
import Derived.Test.YtiddkhhcophbfaaDoorXHx9
import Derived.Test.YtiddkhhcophbfaaDoorXHx10
import Derived.Test.YtiddkhhcophbfaaDoorXHx13
import Derived.Test.YtiddkhhcophbfaaDoorXHx14
namespace Go.Proofs.YtiddkhhcophbfaaDoor.ZH
open Go.RowKit Go.Proofs.YtiddkhhcophbfaaDoor.XH Go.Proofs.YtiddkhhcophbfaaDoorW.PrintWords Go.Proofs.YtiddkhhcophbfaaDoorW.PrintLast
set_option linter.unusedVariables false
set_option linter.unusedSimpArgs false
theorem w64 {x : Int} (h0 : -9223372036854775808 ≤ x) (h1 : x < 9223372036854775808) : wrap64 x = x := by unfold wrap64; omega
/-- Not by rfl: so simp leaves a proof, and the kernel need not compare the two sides by running them. -/
theorem bs {α β : Type} (a : α) (f : α → Option β) : (some a).bind f = f a := by
  have h : ∀ o : Option α, o = some a → o.bind f = f a := by
    rintro _ rfl
    rfl
  exact h _ rfl
/-- A tone of the gamut. -/
def vld (s : Int) (b : Bool) : Bool := decide (0 ≤ s) && (decide (s ≤ 20) && (!b || (Int.tmod s 7 == 2)))
theorem vld_bd {s : Int} {b : Bool} (h : vld s b = true) : 0 ≤ s ∧ s ≤ 20 := by
  simp only [vld, Bool.and_eq_true, decide_eq_true_eq] at h
  exact ⟨h.1, h.2.1⟩
theorem spec_valid (s : Int) (b : Bool) : spec_ToneValid.f s b = some (vld s b) := by
  unfold spec_ToneValid.f spec_l6In.f spec_l1Letter.f vld
  by_cases h0 : 0 ≤ s
  · rw [if_pos h0, decide_eq_true h0]
    by_cases h1 : s ≤ 20
    · cases b <;> simp [h1]
    · simp [h1]
  · rw [if_neg h0, decide_eq_false h0]
    simp
theorem impl_valid (s : Int) (b : Bool) : impl_Tone_valid.f s b = some (vld s b) := by
  unfold impl_Tone_valid.f vld
  by_cases h0 : 0 ≤ s
  · rw [if_pos h0, decide_eq_true h0]
    by_cases h1 : s ≤ 20
    · cases b <;> simp [h1]
    · simp [h1]
  · rw [if_neg h0, decide_eq_false h0]
    simp
abbrev St := S31
abbrev Lt := S58
def cv (l : List Lt) : List St := l.map fun x => ⟨x.f0, x.f1⟩
theorem cv_len (l : List Lt) : (cv l).length = l.length := by simp [cv]
theorem w_succ {n : Nat} (h : n < 4611686018427387904) : wrap64 ((n : Int) + 1) = ((n + 1 : Nat) : Int) := by
  rw [w64 (by omega) (by omega)]; omega
theorem drop_at {α : Type} (l : List α) (n : Nat) (z : α) (h : n < l.length) : l.drop n = l.getD n z :: l.drop (n + 1) := by
  rw [List.drop_eq_getElem_cons h, List.getD_eq_getElem?_getD, List.getElem?_eq_getElem h]; rfl
theorem rd_s (l : List St) (n : Nat) : rd_T31 l (n : Int) = l.getD n z31 := by
  unfold rd_T31; rw [Int.toNat_natCast]
theorem rd_l (l : List Lt) (n : Nat) : rd_T58 l (n : Int) = l.getD n z58 := by
  unfold rd_T58; rw [Int.toNat_natCast]
theorem round {k d : Nat} (h : d < k) : ∃ m, k = m + 1 := ⟨k - 1, by omega⟩
theorem toTones_loop (l : List Lt) (hl : l.length ≤ 1048576) (d : Nat) : ∀ (k n : Nat) (x : List St), n + d = l.length → d < k → x.length = l.length →
    laws_toToneS.l0 k l x (n : Int) = some (x.take n ++ (cv l).drop n) := by
  induction d with
  | zero =>
    intro k n x hn hk hx
    obtain ⟨k, rfl⟩ := round hk
    simp only [laws_toToneS.l0]
    rw [if_neg (by omega), List.take_of_length_le (by omega), List.drop_eq_nil_of_le (by rw [cv_len]; omega), List.append_nil]
  | succ d ih =>
    intro k n x hn hk hx
    obtain ⟨k, rfl⟩ := round hk
    simp only [laws_toToneS.l0]
    rw [if_pos (by omega), if_pos (by omega)]
    unfold laws_toTone.f
    simp only [Option.bind_some]
    rw [if_pos (by omega), w_succ (by omega), Int.toNat_natCast, rd_l]
    rw [ih k (n + 1) _ (by omega) (by omega) (by simp [hx])]
    have h1 : n < (cv l).length := by rw [cv_len]; omega
    rw [drop_at (cv l) n ⟨0, false⟩ h1]
    congr 1
    have h2 : (cv l).getD n ⟨0, false⟩ = ⟨(l.getD n z58).f0, (l.getD n z58).f1⟩ := by
      have h3 : n < l.length := by omega
      simp [cv, List.getD_eq_getElem?_getD, List.getElem?_eq_getElem h3]
    rw [h2, List.take_add_one, List.take_set_of_le (Nat.le_refl _), List.getElem?_set_self (by omega)]
    simp
theorem toTones (l : List Lt) (hl : l.length ≤ 1048576) (k : Nat) (hk : l.length < k) : laws_toToneS.f k l = some (cv l) := by
  unfold laws_toToneS.f
  rw [if_pos (by omega), if_pos (by omega), Int.toNat_natCast]
  have := toTones_loop l hl l.length k 0 (List.replicate l.length z31) (by omega) hk (by simp)
  simpa using this
/-- A list is a melody. -/
def mv (l : List St) : Bool := l.all (fun t => vld t.f0 t.f1) && decide (l.length ≤ 24)
theorem specMelody_loop (l : List St) (hl : l.length ≤ 1048576) (d : Nat) : ∀ (k n : Nat), n + d = l.length → d < k →
    spec_MelodyValid.l0 k l (n : Int) = some ((l.drop n).all (fun t => vld t.f0 t.f1) && decide (l.length ≤ 24)) := by
  induction d with
  | zero =>
    intro k n hn hk
    obtain ⟨k, rfl⟩ := round hk
    simp only [spec_MelodyValid.l0]
    rw [if_neg (by omega), List.drop_eq_nil_of_le (by omega)]
    simp
    omega
  | succ d ih =>
    intro k n hn hk
    obtain ⟨k, rfl⟩ := round hk
    simp only [spec_MelodyValid.l0]
    rw [if_pos (by omega), if_pos (by omega), spec_valid, rd_s, w_succ (by omega), ih k (n + 1) (by omega) (by omega), drop_at l n z31 (by omega), List.all_cons]
    cases vld (l.getD n z31).f0 (l.getD n z31).f1 <;> simp
theorem specMelody (l : List St) (hl : l.length ≤ 1048576) (k : Nat) (hk : l.length < k) : spec_MelodyValid.f k l = some (mv l) := by
  unfold spec_MelodyValid.f mv
  have := specMelody_loop l hl l.length k 0 (by omega) hk
  simpa using this
theorem implMelody_loop (l : List St) (hl : l.length ≤ 1048576) (d : Nat) : ∀ (k n : Nat), n + d = l.length → d < k →
    impl_MelodyValid.l0 k l (l.length : Int) (n : Int) = some ((l.drop n).all (fun t => vld t.f0 t.f1)) := by
  induction d with
  | zero =>
    intro k n hn hk
    obtain ⟨k, rfl⟩ := round hk
    simp only [impl_MelodyValid.l0]
    rw [if_neg (by omega), List.drop_eq_nil_of_le (by omega)]
    simp
  | succ d ih =>
    intro k n hn hk
    obtain ⟨k, rfl⟩ := round hk
    simp only [impl_MelodyValid.l0]
    rw [if_pos (by omega), if_pos (by omega), if_pos (by omega), impl_valid, rd_s, w_succ (by omega), ih k (n + 1) (by omega) (by omega), drop_at l n z31 (by omega), List.all_cons]
    cases vld (l.getD n z31).f0 (l.getD n z31).f1 <;> simp
theorem implMelody (l : List St) (hl : l.length ≤ 1048576) (k : Nat) (hk : l.length < k) : impl_MelodyValid.f k l = some (mv l) := by
  unfold impl_MelodyValid.f mv
  by_cases h : (l.length : Int) > 24
  · rw [if_pos h, decide_eq_false (by omega)]; simp
  · rw [if_neg h, decide_eq_true (by omega)]
    have := implMelody_loop l hl l.length k 0 (by omega) hk
    simpa using this
theorem eqTone_self (s : Int) (b : Bool) : laws_eqTone.f s b s b = some true := by
  unfold laws_eqTone.f; simp
theorem eqTones_loop (l : List St) (hl : l.length ≤ 1048576) (d : Nat) : ∀ (k n : Nat), n + d = l.length → d < k → laws_eqToneS.l0 k l l (n : Int) = some true := by
  induction d with
  | zero =>
    intro k n hn hk
    obtain ⟨k, rfl⟩ := round hk
    simp only [laws_eqToneS.l0]
    rw [if_neg (by omega)]
  | succ d ih =>
    intro k n hn hk
    obtain ⟨k, rfl⟩ := round hk
    simp only [laws_eqToneS.l0]
    rw [if_pos (by omega), if_pos (by omega), if_pos (by omega), eqTone_self, w_succ (by omega), ih k (n + 1) (by omega) (by omega)]
    simp
theorem eqTones (l : List St) (hl : l.length ≤ 1048576) (k : Nat) (hk : l.length < k) : laws_eqToneS.f k l l = some true := by
  unfold laws_eqToneS.f
  rw [if_pos rfl]
  exact eqTones_loop l hl l.length k 0 (by omega) hk
theorem szTones (l : List Lt) (c : Int) (hc : 0 ≤ c ∧ c ≤ 1048576) (hm : l.length ≤ 9223372036854775807) : laws_szToneS.f l c = some (if c < l.length then -1 else c - l.length) := by
  unfold laws_szToneS.f
  rw [w64 (by omega) (by omega)]
  by_cases h : c < l.length
  · rw [if_pos (by omega), if_pos h]
  · rw [if_neg (by omega), if_neg h]
theorem rd_n (l : List Int) (n : Nat) : rd l (n : Int) = l.getD n 0 := by
  unfold rd; rw [Int.toNat_natCast]
theorem dropI (l : List Int) (n : Nat) (h : n < l.length) : l.drop n = l.getD n 0 :: l.drop (n + 1) := by
  rw [List.drop_eq_getElem_cons h, List.getD_eq_getElem?_getD, List.getElem?_eq_getElem h]; rfl
/-- The numbers from c on, one a place. -/
def cnt : List Int → Int → List Int
  | [], _ => []
  | _ :: xs, c => c :: cnt xs (c + 1)
theorem cnt_len : ∀ (l : List Int) (c : Int), (cnt l c).length = l.length
  | [], _ => rfl
  | _ :: xs, c => by simp [cnt, cnt_len xs (c + 1)]
theorem cnt_eq : ∀ (l m : List Int) (c : Int), l.length = m.length → cnt l c = cnt m c
  | [], [], _, _ => rfl
  | [], _ :: _, _, h => by simp at h
  | _ :: _, [], _, h => by simp at h
  | _ :: xs, _ :: ys, c, h => by simp only [cnt]; rw [cnt_eq xs ys _ (by simpa using h)]
theorem in21 (P : Int → Prop) (h : ∀ n : Fin 21, P (n.val : Int)) (a : Int) (ha : 0 ≤ a ∧ a ≤ 20) : P a := by
  have := h ⟨a.toNat, by omega⟩
  have e : ((a.toNat : Nat) : Int) = a := by omega
  rw [← e]
  exact this
theorem vld_no {s : Int} (b : Bool) (h : ¬ (0 ≤ s ∧ s ≤ 20)) : vld s b = false := by
  cases hv : vld s b with
  | false => rfl
  | true => exact absurd (vld_bd hv) h
theorem height_eq (s : Int) (b : Bool) (h : vld s b = true) : ∃ v, impl_Tone_height.f s b = some v ∧ spec_l1Height.f s b = some v ∧ 0 ≤ v ∧ v ≤ 40 - 6 := by
  have := in21 (fun s => ∀ b, vld s b = true → (impl_Tone_height.f s b).all (fun v => decide (0 ≤ v) && decide (v ≤ 34)) = true ∧ (impl_Tone_height.f s b).isSome = true ∧ impl_Tone_height.f s b = spec_l1Height.f s b) (by decide +kernel) s (vld_bd h) b h
  obtain ⟨h1, h2, h3⟩ := this
  obtain ⟨v, hv⟩ := Option.isSome_iff_exists.1 h2
  rw [hv] at h1
  simp at h1
  exact ⟨v, hv, h3 ▸ hv, h1.1, by omega⟩
/-- The differences between each two tones that follow each other. -/
def dl (g : St → Int) : List St → List Int
  | a :: b :: ts => (g b - g a) :: dl g (b :: ts)
  | _ => []
theorem dl_len (g : St → Int) : ∀ l : List St, (dl g l).length = l.length - 1
  | [] => rfl
  | [_] => rfl
  | _ :: b :: ts => by simp only [dl, List.length_cons, dl_len g (b :: ts)]; omega
def dOf (g : St → Int) (l : List St) : List Int := if mv l = true then dl g l else []
theorem dOf_len (g : St → Int) (l : List St) : (dOf g l).length ≤ l.length := by
  unfold dOf
  split
  · rw [dl_len]; omega
  · simp
theorem dl_at (g : St → Int) (z : St) : ∀ (l : List St) (i : Nat), i + 1 < l.length → (dl g l).getD i 0 = g (l.getD (i + 1) z) - g (l.getD i z)
  | [], i, h => by simp at h
  | [_], i, h => by simp at h
  | a :: b :: ts, 0, h => rfl
  | a :: b :: ts, i + 1, h => by
    have := dl_at g z (b :: ts) i (by simp at h ⊢; omega)
    simp only [dl, List.getD_cons_succ]
    exact this
theorem mv_all {l : List St} (h : mv l = true) : ∀ t ∈ l, vld t.f0 t.f1 = true := by
  simp only [mv, Bool.and_eq_true, List.all_eq_true] at h
  exact h.1
theorem mv_at {l : List St} (h : mv l = true) {i : Nat} (hi : i < l.length) (z : St) : vld (l.getD i z).f0 (l.getD i z).f1 = true := by
  refine mv_all h _ ?_
  rw [List.getD_eq_getElem?_getD, List.getElem?_eq_getElem hi]
  exact List.getElem_mem hi
theorem diffs_dl {D : St → St → Option (Int × Bool)} {g : St → Int} (hD : ∀ a b : St, vld a.f0 a.f1 = true → vld b.f0 b.f1 = true → D a b = some (g b - g a, true)) :
    ∀ (l : List St) (acc : List Int), (∀ t ∈ l, vld t.f0 t.f1 = true) → diffs D l acc = some (acc ++ dl g l)
  | [], acc, _ => by simp [diffs, dl]
  | [_], acc, _ => by simp [diffs, dl]
  | a :: b :: ts, acc, h => by
    simp only [diffs, dl]
    rw [hD a b (h a (by simp)) (h b (by simp))]
    simp only [Option.bind_some]
    rw [if_pos trivial, diffs_dl hD (b :: ts) _ (fun t ht => h t (List.mem_cons_of_mem _ ht)), List.append_assoc]
    rfl
def stp (t : St) : Int := t.f0
theorem impl_steps {a b : St} (ha : vld a.f0 a.f1 = true) (hb : vld b.f0 b.f1 = true) : impl_ToneSteps.f a.f0 a.f1 b.f0 b.f1 = some (stp b - stp a, true) := by
  have h1 := vld_bd ha
  have h2 := vld_bd hb
  unfold impl_ToneSteps.f stp
  rw [impl_valid]
  simp only [Option.bind_some]
  rw [if_pos ha, impl_valid]
  simp only [Option.bind_some]
  rw [if_pos hb, w64 (by omega) (by omega)]
theorem implSteps (l : List St) (hl : l.length ≤ 1048576) (k : Nat) (hk : l.length < k) : impl_MelodySteps.f k l = some (dOf stp l) := by
  unfold impl_MelodySteps.f dOf
  rw [implMelody l hl k hk]
  simp only [Option.bind_some]
  by_cases h : mv l = true
  · rw [if_pos h, if_pos h, diffs_dl (D := impl_MelodySteps.D k) (g := stp) (fun a b ha hb => impl_steps ha hb) l [] (mv_all h), List.nil_append]
  · rw [if_neg h, if_neg h]
theorem specSteps_loop (l : List St) (hl : l.length ≤ 1048576) (hv : mv l = true) (d : Nat) : ∀ (k m : Nat) (x : List Int), m + 1 + d = l.length → d + l.length + 1 < k → x.length ≤ m →
    spec_MelodySteps.l0 k l x ((m + 1 : Nat) : Int) = some (x ++ dl stp (l.drop m)) := by
  induction d with
  | zero =>
    intro k m x hm hk hx
    obtain ⟨k, rfl⟩ := round hk
    simp only [spec_MelodySteps.l0]
    rw [if_neg (by omega), drop_at l m z31 (by omega), List.drop_eq_nil_of_le (by omega)]
    simp [dl]
  | succ d ih =>
    intro k m x hm hk hx
    obtain ⟨k, rfl⟩ : ∃ j, k = j + 1 := ⟨k - 1, by omega⟩
    simp only [spec_MelodySteps.l0]
    rw [if_pos (by omega), specMelody l hl k (by omega)]
    simp only [Option.bind_some]
    have e1 : wrap64 (((m + 1 : Nat) : Int) - 1) = (m : Int) := by rw [w64 (by omega) (by omega)]; omega
    rw [if_pos hv, e1, if_pos (by omega), if_pos (by omega), if_pos (by omega), if_pos (by omega), rd_s, rd_s, w_succ (by omega)]
    have hm1 : m < l.length := by omega
    have hm2 : m + 1 < l.length := by omega
    have b1 := vld_bd (mv_at hv hm1 z31)
    have b2 := vld_bd (mv_at hv hm2 z31)
    rw [w64 (by omega) (by omega), ih k (m + 1) _ (by omega) (by omega) (by simp; omega), drop_at l m z31 hm1, drop_at l (m + 1) z31 hm2, List.append_assoc]
    rfl
theorem specSteps (l : List St) (hl : l.length ≤ 1048576) (k : Nat) (hk : 2 * l.length + 2 < k) : spec_MelodySteps.f k l = some (dOf stp l) := by
  unfold spec_MelodySteps.f
  match hlen : l.length with
  | 0 =>
    obtain ⟨k, rfl⟩ := round hk
    obtain rfl : l = [] := List.eq_nil_of_length_eq_zero hlen
    simp only [spec_MelodySteps.l0]
    rw [if_neg (by simp)]
    simp [dOf, dl]
  | n + 1 =>
    by_cases h : mv l = true
    · have := specSteps_loop l hl h n k 0 [] (by omega) (by omega) (by simp)
      unfold dOf
      rw [if_pos h]
      simpa using this
    · obtain ⟨k, rfl⟩ := round hk
      simp only [spec_MelodySteps.l0]
      unfold dOf
      rw [if_neg h]
      by_cases c : (1 : Int) < (l.length : Int)
      · rw [if_pos c, specMelody l hl k (by omega)]
        simp only [Option.bind_some]
        rw [if_neg h]
      · rw [if_neg c]
/-- The height of a tone. -/
def hgt (t : St) : Int := (impl_Tone_height.f t.f0 t.f1).getD 0
theorem hgt_eq {t : St} (h : vld t.f0 t.f1 = true) : impl_Tone_height.f t.f0 t.f1 = some (hgt t) ∧ spec_l1Height.f t.f0 t.f1 = some (hgt t) ∧ 0 ≤ hgt t ∧ hgt t ≤ 34 := by
  obtain ⟨v, e1, e2, h1, h2⟩ := height_eq t.f0 t.f1 h
  have : hgt t = v := by unfold hgt; rw [e1]; rfl
  rw [this]
  exact ⟨e1, e2, h1, by omega⟩
theorem impl_semis {a b : St} (k : Nat) (hk : 0 < k) (ha : vld a.f0 a.f1 = true) (hb : vld b.f0 b.f1 = true) : impl_ToneSemis.f k a.f0 a.f1 b.f0 b.f1 = some (hgt b - hgt a, true) := by
  obtain ⟨k, rfl⟩ : ∃ j, k = j + 1 := ⟨k - 1, by omega⟩
  obtain ⟨e1, _, h1, h2⟩ := hgt_eq ha
  obtain ⟨e3, _, h3, h4⟩ := hgt_eq hb
  unfold impl_ToneSemis.f
  rw [impl_valid]
  simp only [Option.bind_some]
  rw [if_pos ha, impl_valid]
  simp only [Option.bind_some, impl_ToneSemis.j0]
  rw [hb, if_neg (by simp), e3]
  simp only [Option.bind_some]
  rw [e1]
  simp only [Option.bind_some]
  rw [w64 (by omega) (by omega)]
theorem implSemis (l : List St) (hl : l.length ≤ 1048576) (k : Nat) (hk : l.length < k) : impl_MelodySemis.f k l = some (dOf hgt l) := by
  unfold impl_MelodySemis.f dOf
  rw [implMelody l hl k hk]
  simp only [Option.bind_some]
  by_cases h : mv l = true
  · rw [if_pos h, if_pos h, diffs_dl (D := impl_MelodySemis.D k) (g := hgt) (fun a b ha hb => impl_semis k (by omega) ha hb) l [] (mv_all h), List.nil_append]
  · rw [if_neg h, if_neg h]
theorem specSemis_loop (l : List St) (hl : l.length ≤ 1048576) (hv : mv l = true) (d : Nat) : ∀ (k m : Nat) (x : List Int), m + 1 + d = l.length → 2 * d + l.length + 2 < k → x.length ≤ m →
    spec_MelodySemis.l0 k l x ((m + 1 : Nat) : Int) = some (x ++ dl hgt (l.drop m)) := by
  induction d with
  | zero =>
    intro k m x hm hk hx
    obtain ⟨k, rfl⟩ : ∃ j, k = j + 2 := ⟨k - 2, by omega⟩
    simp only [spec_MelodySemis.l0]
    rw [if_neg (by omega), drop_at l m z31 (by omega), List.drop_eq_nil_of_le (by omega)]
    simp [dl, spec_MelodySemis.j1]
  | succ d ih =>
    intro k m x hm hk hx
    obtain ⟨k, rfl⟩ : ∃ j, k = j + 2 := ⟨k - 2, by omega⟩
    simp only [spec_MelodySemis.l0]
    rw [if_pos (by omega), specMelody l hl (k + 1) (by omega)]
    simp only [Option.bind_some, spec_MelodySemis.j1]
    have e1 : wrap64 (((m + 1 : Nat) : Int) - 1) = (m : Int) := by rw [w64 (by omega) (by omega)]; omega
    have hm1 : m < l.length := by omega
    have hm2 : m + 1 < l.length := by omega
    obtain ⟨_, b1, c1, d1⟩ := hgt_eq (mv_at hv hm1 z31)
    obtain ⟨_, b2, c2, d2⟩ := hgt_eq (mv_at hv hm2 z31)
    rw [if_pos hv, e1, if_pos (by omega), if_pos (by omega), rd_s, rd_s, b2]
    simp only [Option.bind_some]
    rw [if_pos (by omega), if_pos (by omega), b1]
    simp only [Option.bind_some]
    rw [if_pos (by omega), w_succ (by omega), w64 (by omega) (by omega), ih k (m + 1) _ (by omega) (by omega) (by simp; omega), drop_at l m z31 hm1, drop_at l (m + 1) z31 hm2, List.append_assoc]
    rfl
theorem specSemis (l : List St) (hl : l.length ≤ 1048576) (k : Nat) (hk : 3 * l.length + 3 < k) : spec_MelodySemis.f k l = some (dOf hgt l) := by
  unfold spec_MelodySemis.f
  match hlen : l.length with
  | 0 =>
    obtain ⟨k, rfl⟩ : ∃ j, k = j + 2 := ⟨k - 2, by omega⟩
    obtain rfl : l = [] := List.eq_nil_of_length_eq_zero hlen
    simp only [spec_MelodySemis.l0]
    rw [if_neg (by simp)]
    simp [dOf, dl, spec_MelodySemis.j1]
  | n + 1 =>
    by_cases h : mv l = true
    · have := specSemis_loop l hl h n k 0 [] (by omega) (by omega) (by simp)
      unfold dOf
      rw [if_pos h]
      simpa using this
    · obtain ⟨k, rfl⟩ : ∃ j, k = j + 2 := ⟨k - 2, by omega⟩
      simp only [spec_MelodySemis.l0]
      unfold dOf
      rw [if_neg h]
      by_cases c : (1 : Int) < (l.length : Int)
      · rw [if_pos c, specMelody l hl (k + 1) (by omega)]
        simp only [Option.bind_some, spec_MelodySemis.j1]
        rw [if_neg h]
      · rw [if_neg c]
        simp [spec_MelodySemis.j1]
theorem eq_step {a b : List Int} (n : Nat) (ha : n < a.length) (hb : n < b.length) : decide (a.drop n = b.drop n) = (decide (a.getD n 0 = b.getD n 0) && decide (a.drop (n + 1) = b.drop (n + 1))) := by
  rw [Bool.eq_iff_iff]
  simp only [decide_eq_true_eq, Bool.and_eq_true]
  rw [dropI a n ha, dropI b n hb, List.cons.injEq]
theorem implEq_loop (a b : List Int) (ha : a.length ≤ 4000000) (hab : a.length = b.length) (d : Nat) : ∀ (k n : Nat), n + d = a.length → d < k → impl_equalNumbers.l0 k b a (a.length : Int) (n : Int) = some (decide (a.drop n = b.drop n)) := by
  induction d with
  | zero =>
    intro k n hn hk
    obtain ⟨k, rfl⟩ := round hk
    simp only [impl_equalNumbers.l0]
    rw [if_neg (by omega), show a.drop n = [] from List.drop_eq_nil_of_le (by omega), show b.drop n = [] from List.drop_eq_nil_of_le (by omega)]
    simp
  | succ d ih =>
    intro k n hn hk
    obtain ⟨k, rfl⟩ := round hk
    simp only [impl_equalNumbers.l0]
    rw [if_pos (by omega), if_pos (by omega), if_pos (by omega), if_pos (by omega), rd_n, rd_n, w_succ (by omega), ih k (n + 1) (by omega) (by omega), eq_step n (by omega) (by omega)]
    by_cases h : a.getD n 0 = b.getD n 0
    · rw [if_pos h, decide_eq_true h, Bool.true_and]
    · rw [if_neg h, decide_eq_false h, Bool.false_and]
theorem implEq (a b : List Int) (ha : a.length ≤ 4000000) (k : Nat) (hk : a.length < k) : impl_equalNumbers.f k a b = some (decide (a = b)) := by
  unfold impl_equalNumbers.f
  by_cases h : a.length = b.length
  · rw [if_pos (by omega)]
    have := implEq_loop a b ha h a.length k 0 (by omega) hk
    simpa using this
  · rw [if_neg (by omega), decide_eq_false (fun e => h (by rw [e]))]
theorem specEq_loop (a b : List Int) (ha : a.length ≤ 4000000) (hab : a.length = b.length) (d : Nat) : ∀ (k n : Nat), n + d = a.length → d < k → spec_l2Same.l0 k a b (n : Int) = some (decide (a.drop n = b.drop n)) := by
  induction d with
  | zero =>
    intro k n hn hk
    obtain ⟨k, rfl⟩ := round hk
    simp only [spec_l2Same.l0]
    rw [if_neg (by omega), show a.drop n = [] from List.drop_eq_nil_of_le (by omega), show b.drop n = [] from List.drop_eq_nil_of_le (by omega)]
    simp
  | succ d ih =>
    intro k n hn hk
    obtain ⟨k, rfl⟩ := round hk
    simp only [spec_l2Same.l0]
    rw [if_pos (by omega), if_pos (by omega), if_pos (by omega), rd_n, rd_n, w_succ (by omega), ih k (n + 1) (by omega) (by omega), eq_step n (by omega) (by omega)]
    by_cases h : a.getD n 0 = b.getD n 0
    · rw [if_pos h, decide_eq_true h, Bool.true_and]
    · rw [if_neg h, decide_eq_false h, Bool.false_and]
theorem specEq (a b : List Int) (ha : a.length ≤ 4000000) (k : Nat) (hk : a.length < k) : spec_l2Same.f k a b = some (decide (a = b)) := by
  unfold spec_l2Same.f
  by_cases h : a.length = b.length
  · rw [if_pos (by omega)]
    have := specEq_loop a b ha h a.length k 0 (by omega) hk
    simpa using this
  · rw [if_neg (by omega), decide_eq_false (fun e => h (by rw [e]))]
def sameM (a b : List St) : Bool := mv a && (mv b && (decide (a.length = b.length) && (decide (dOf hgt a = dOf hgt b) && decide (dOf stp a = dOf stp b))))
theorem implSame (a b : List St) (ha : a.length ≤ 1048576) (hb : b.length ≤ 1048576) (k : Nat) (hk : a.length + b.length < k) : impl_MelodySame.f k a b = some (sameM a b) := by
  have h1 := dOf_len hgt a
  have h2 := dOf_len stp a
  unfold impl_MelodySame.f sameM
  rw [implMelody a ha k (by omega)]
  simp only [Option.bind_some]
  by_cases h : mv a = true
  · rw [if_pos h, implMelody b hb k (by omega), h]
    simp only [Option.bind_some]
    by_cases h2 : mv b = true
    · rw [if_pos h2, h2]
      by_cases h3 : a.length = b.length
      · rw [if_pos (by omega), decide_eq_true h3, implSemis a ha k (by omega), implSemis b hb k (by omega)]
        simp only [Option.bind_some]
        rw [implEq _ _ (by omega) k (by omega)]
        simp only [Option.bind_some]
        by_cases h4 : dOf hgt a = dOf hgt b
        · rw [if_pos (by simpa using h4), decide_eq_true h4, implSteps a ha k (by omega), implSteps b hb k (by omega)]
          simp only [Option.bind_some]
          rw [implEq _ _ (by omega) k (by omega)]
          simp
        · rw [if_neg (by simpa using h4), decide_eq_false h4]
          simp
      · rw [if_neg (by omega), decide_eq_false h3]
        simp
    · rw [if_neg h2, Bool.eq_false_iff.mpr h2]
      simp
  · rw [if_neg h, Bool.eq_false_iff.mpr h]
    simp
theorem specSame (a b : List St) (ha : a.length ≤ 1048576) (hb : b.length ≤ 1048576) (k : Nat) (hk : 3 * a.length + 3 * b.length + 3 < k) : spec_MelodySame.f k a b = some (sameM a b) := by
  have h1 := dOf_len hgt a
  have h2 := dOf_len stp a
  unfold spec_MelodySame.f sameM
  rw [specMelody a ha k (by omega)]
  simp only [Option.bind_some]
  by_cases h : mv a = true
  · rw [if_pos h, specMelody b hb k (by omega), h]
    simp only [Option.bind_some]
    by_cases h2 : mv b = true
    · rw [if_pos h2, h2]
      by_cases h3 : a.length = b.length
      · rw [if_pos (by omega), decide_eq_true h3, specSemis a ha k (by omega), specSemis b hb k (by omega)]
        simp only [Option.bind_some]
        rw [specEq _ _ (by omega) k (by omega)]
        simp only [Option.bind_some]
        by_cases h4 : dOf hgt a = dOf hgt b
        · rw [if_pos (by simpa using h4), decide_eq_true h4, specSteps a ha k (by omega), specSteps b hb k (by omega)]
          simp only [Option.bind_some]
          rw [specEq _ _ (by omega) k (by omega)]
          simp
        · rw [if_neg (by simpa using h4), decide_eq_false h4]
          simp
      · rw [if_neg (by omega), decide_eq_false h3]
        simp
    · rw [if_neg h2, Bool.eq_false_iff.mpr h2]
      simp
  · rw [if_neg h, Bool.eq_false_iff.mpr h]
    simp
theorem FnExactMelodySame (l l2 : List Lt) (hm : l.length ≤ 9223372036854775807) (_ : ∀ x ∈ l, (Lit.int .i64 x.f0).wf = true ∧ True) (hm2 : l2.length ≤ 9223372036854775807) (_ : ∀ x ∈ l2, (Lit.int .i64 x.f0).wf = true ∧ True) : ∃ k, laws_FnExactMelodySame.f k l l2 = some true := by
  refine ⟨3 * l.length + 3 * l2.length + 9, ?_⟩
  unfold laws_FnExactMelodySame.f
  rw [szTones l 1048576 (by omega) hm]
  simp only [Option.bind_some]
  by_cases h : (1048576 : Int) < l.length
  · rw [if_pos h, if_pos (by omega)]
  rw [if_neg h, if_neg (by omega)]
  rw [szTones l2 _ (by omega) hm2]
  simp only [Option.bind_some]
  by_cases h2 : 1048576 - (l.length : Int) < l2.length
  · rw [if_pos h2, if_pos (by omega)]
  rw [if_neg h2, if_neg (by omega)]
  have hl : l.length ≤ 1048576 := by omega
  have hl2 : l2.length ≤ 1048576 := by omega
  have hc := cv_len l
  have hc2 := cv_len l2
  rw [toTones l hl _ (by omega), toTones l2 hl2 _ (by omega)]
  simp only [Option.bind_some]
  rw [specSame _ _ (by omega) (by omega) _ (by omega), implSame _ _ (by omega) (by omega) _ (by omega)]
  simp only [Option.bind_some]
  rw [show (sameM (cv l) (cv l2) != sameM (cv l) (cv l2)) = false by simp, if_neg (by simp)]
  rw [eqTones (cv l) (by omega) _ (by omega)]
  simp only [Option.bind_some, if_true]
  rw [eqTones (cv l2) (by omega) _ (by omega)]
  simp
end Go.Proofs.YtiddkhhcophbfaaDoor.ZH
