/- The plain laws: what the Lean functions of the walks come to. No program and no memory in sight. No condition beyond what each theorem says. -/
import Derived.Test.YtiddkhhcophbfaaDoorXHx2
import Derived.Test.YtiddkhhcophbfaaDoorXHx3
import Derived.Test.YtiddkhhcophbfaaDoorXHx4
import Derived.Test.YtiddkhhcophbfaaDoorXHx5
import Derived.Test.YtiddkhhcophbfaaDoorXHx8
import Derived.Test.YtiddkhhcophbfaaDoorXHx9
namespace Go.Proofs.YtiddkhhcophbfaaDoor.ZH
open Go.RowKit Go.Proofs.YtiddkhhcophbfaaDoor.XH Go.Proofs.YtiddkhhcophbfaaDoorW.PrintWords Go.Proofs.YtiddkhhcophbfaaDoorW.PrintLast
set_option linter.unusedVariables false
set_option linter.unusedSimpArgs false
theorem w64 {x : Int} (h0 : -9223372036854775808 ≤ x) (h1 : x < 9223372036854775808) : wrap64 x = x := by unfold wrap64; omega
/-- Not by rfl: so simp leaves a proof, and the kernel need not compare the two sides by running them. -/
theorem bs {α β : Type} (a : α) (f : α → Option β) : (some a).bind f = f a := by
  have h : ∀ o : Option α, o = some a → o.bind f = f a := by
    rintro _ rfl
    rfl
  exact h _ rfl
/-- A tone of the gamut. -/
def vld (s : Int) (b : Bool) : Bool := decide (0 ≤ s) && (decide (s ≤ 20) && (!b || (Int.tmod s 7 == 2)))
theorem vld_bd {s : Int} {b : Bool} (h : vld s b = true) : 0 ≤ s ∧ s ≤ 20 := by
  simp only [vld, Bool.and_eq_true, decide_eq_true_eq] at h
  exact ⟨h.1, h.2.1⟩
theorem spec_valid (s : Int) (b : Bool) : spec_ToneValid.f s b = some (vld s b) := by
  unfold spec_ToneValid.f spec_l6In.f spec_l1Letter.f vld
  by_cases h0 : 0 ≤ s
  · rw [if_pos h0, decide_eq_true h0]
    by_cases h1 : s ≤ 20
    · cases b <;> simp [h1]
    · simp [h1]
  · rw [if_neg h0, decide_eq_false h0]
    simp
theorem impl_valid (s : Int) (b : Bool) : impl_Tone_valid.f s b = some (vld s b) := by
  unfold impl_Tone_valid.f vld
  by_cases h0 : 0 ≤ s
  · rw [if_pos h0, decide_eq_true h0]
    by_cases h1 : s ≤ 20
    · cases b <;> simp [h1]
    · simp [h1]
  · rw [if_neg h0, decide_eq_false h0]
    simp
abbrev St := S31
abbrev Lt := S58
def cv (l : List Lt) : List St := l.map fun x => ⟨x.f0, x.f1⟩
theorem cv_len (l : List Lt) : (cv l).length = l.length := by simp [cv]
theorem w_succ {n : Nat} (h : n < 4611686018427387904) : wrap64 ((n : Int) + 1) = ((n + 1 : Nat) : Int) := by
  rw [w64 (by omega) (by omega)]; omega
theorem drop_at {α : Type} (l : List α) (n : Nat) (z : α) (h : n < l.length) : l.drop n = l.getD n z :: l.drop (n + 1) := by
  rw [List.drop_eq_getElem_cons h, List.getD_eq_getElem?_getD, List.getElem?_eq_getElem h]; rfl
theorem rd_s (l : List St) (n : Nat) : rd_T31 l (n : Int) = l.getD n z31 := by
  unfold rd_T31; rw [Int.toNat_natCast]
theorem rd_l (l : List Lt) (n : Nat) : rd_T58 l (n : Int) = l.getD n z58 := by
  unfold rd_T58; rw [Int.toNat_natCast]
theorem round {k d : Nat} (h : d < k) : ∃ m, k = m + 1 := ⟨k - 1, by omega⟩
theorem toTones_loop (l : List Lt) (hl : l.length ≤ 1048576) (d : Nat) : ∀ (k n : Nat) (x : List St), n + d = l.length → d < k → x.length = l.length →
    laws_toToneS.l0 k l x (n : Int) = some (x.take n ++ (cv l).drop n) := by
  induction d with
  | zero =>
    intro k n x hn hk hx
    obtain ⟨k, rfl⟩ := round hk
    simp only [laws_toToneS.l0]
    rw [if_neg (by omega), List.take_of_length_le (by omega), List.drop_eq_nil_of_le (by rw [cv_len]; omega), List.append_nil]
  | succ d ih =>
    intro k n x hn hk hx
    obtain ⟨k, rfl⟩ := round hk
    simp only [laws_toToneS.l0]
    rw [if_pos (by omega), if_pos (by omega)]
    unfold laws_toTone.f
    simp only [Option.bind_some]
    rw [if_pos (by omega), w_succ (by omega), Int.toNat_natCast, rd_l]
    rw [ih k (n + 1) _ (by omega) (by omega) (by simp [hx])]
    have h1 : n < (cv l).length := by rw [cv_len]; omega
    rw [drop_at (cv l) n ⟨0, false⟩ h1]
    congr 1
    have h2 : (cv l).getD n ⟨0, false⟩ = ⟨(l.getD n z58).f0, (l.getD n z58).f1⟩ := by
      have h3 : n < l.length := by omega
      simp [cv, List.getD_eq_getElem?_getD, List.getElem?_eq_getElem h3]
    rw [h2, List.take_add_one, List.take_set_of_le (Nat.le_refl _), List.getElem?_set_self (by omega)]
    simp
theorem toTones (l : List Lt) (hl : l.length ≤ 1048576) (k : Nat) (hk : l.length < k) : laws_toToneS.f k l = some (cv l) := by
  unfold laws_toToneS.f
  rw [if_pos (by omega), if_pos (by omega), Int.toNat_natCast]
  have := toTones_loop l hl l.length k 0 (List.replicate l.length z31) (by omega) hk (by simp)
  simpa using this
/-- A list is a melody. -/
def mv (l : List St) : Bool := l.all (fun t => vld t.f0 t.f1) && decide (l.length ≤ 24)
theorem specMelody_loop (l : List St) (hl : l.length ≤ 1048576) (d : Nat) : ∀ (k n : Nat), n + d = l.length → d < k →
    spec_MelodyValid.l0 k l (n : Int) = some ((l.drop n).all (fun t => vld t.f0 t.f1) && decide (l.length ≤ 24)) := by
  induction d with
  | zero =>
    intro k n hn hk
    obtain ⟨k, rfl⟩ := round hk
    simp only [spec_MelodyValid.l0]
    rw [if_neg (by omega), List.drop_eq_nil_of_le (by omega)]
    simp
    omega
  | succ d ih =>
    intro k n hn hk
    obtain ⟨k, rfl⟩ := round hk
    simp only [spec_MelodyValid.l0]
    rw [if_pos (by omega), if_pos (by omega), spec_valid, rd_s, w_succ (by omega), ih k (n + 1) (by omega) (by omega), drop_at l n z31 (by omega), List.all_cons]
    cases vld (l.getD n z31).f0 (l.getD n z31).f1 <;> simp
theorem specMelody (l : List St) (hl : l.length ≤ 1048576) (k : Nat) (hk : l.length < k) : spec_MelodyValid.f k l = some (mv l) := by
  unfold spec_MelodyValid.f mv
  have := specMelody_loop l hl l.length k 0 (by omega) hk
  simpa using this
theorem implMelody_loop (l : List St) (hl : l.length ≤ 1048576) (d : Nat) : ∀ (k n : Nat), n + d = l.length → d < k →
    impl_MelodyValid.l0 k l (l.length : Int) (n : Int) = some ((l.drop n).all (fun t => vld t.f0 t.f1)) := by
  induction d with
  | zero =>
    intro k n hn hk
    obtain ⟨k, rfl⟩ := round hk
    simp only [impl_MelodyValid.l0]
    rw [if_neg (by omega), List.drop_eq_nil_of_le (by omega)]
    simp
  | succ d ih =>
    intro k n hn hk
    obtain ⟨k, rfl⟩ := round hk
    simp only [impl_MelodyValid.l0]
    rw [if_pos (by omega), if_pos (by omega), if_pos (by omega), impl_valid, rd_s, w_succ (by omega), ih k (n + 1) (by omega) (by omega), drop_at l n z31 (by omega), List.all_cons]
    cases vld (l.getD n z31).f0 (l.getD n z31).f1 <;> simp
theorem implMelody (l : List St) (hl : l.length ≤ 1048576) (k : Nat) (hk : l.length < k) : impl_MelodyValid.f k l = some (mv l) := by
  unfold impl_MelodyValid.f mv
  by_cases h : (l.length : Int) > 24
  · rw [if_pos h, decide_eq_false (by omega)]; simp
  · rw [if_neg h, decide_eq_true (by omega)]
    have := implMelody_loop l hl l.length k 0 (by omega) hk
    simpa using this
theorem eqTone_self (s : Int) (b : Bool) : laws_eqTone.f s b s b = some true := by
  unfold laws_eqTone.f; simp
theorem eqTones_loop (l : List St) (hl : l.length ≤ 1048576) (d : Nat) : ∀ (k n : Nat), n + d = l.length → d < k → laws_eqToneS.l0 k l l (n : Int) = some true := by
  induction d with
  | zero =>
    intro k n hn hk
    obtain ⟨k, rfl⟩ := round hk
    simp only [laws_eqToneS.l0]
    rw [if_neg (by omega)]
  | succ d ih =>
    intro k n hn hk
    obtain ⟨k, rfl⟩ := round hk
    simp only [laws_eqToneS.l0]
    rw [if_pos (by omega), if_pos (by omega), if_pos (by omega), eqTone_self, w_succ (by omega), ih k (n + 1) (by omega) (by omega)]
    simp
theorem eqTones (l : List St) (hl : l.length ≤ 1048576) (k : Nat) (hk : l.length < k) : laws_eqToneS.f k l l = some true := by
  unfold laws_eqToneS.f
  rw [if_pos rfl]
  exact eqTones_loop l hl l.length k 0 (by omega) hk
theorem szTones (l : List Lt) (c : Int) (hc : 0 ≤ c ∧ c ≤ 1048576) (hm : l.length ≤ 9223372036854775807) : laws_szToneS.f l c = some (if c < l.length then -1 else c - l.length) := by
  unfold laws_szToneS.f
  rw [w64 (by omega) (by omega)]
  by_cases h : c < l.length
  · rw [if_pos (by omega), if_pos h]
  · rw [if_neg (by omega), if_neg h]
theorem rd_n (l : List Int) (n : Nat) : rd l (n : Int) = l.getD n 0 := by
  unfold rd; rw [Int.toNat_natCast]
theorem dropI (l : List Int) (n : Nat) (h : n < l.length) : l.drop n = l.getD n 0 :: l.drop (n + 1) := by
  rw [List.drop_eq_getElem_cons h, List.getD_eq_getElem?_getD, List.getElem?_eq_getElem h]; rfl
/-- The numbers from c on, one a place. -/
def cnt : List Int → Int → List Int
  | [], _ => []
  | _ :: xs, c => c :: cnt xs (c + 1)
theorem cnt_len : ∀ (l : List Int) (c : Int), (cnt l c).length = l.length
  | [], _ => rfl
  | _ :: xs, c => by simp [cnt, cnt_len xs (c + 1)]
theorem cnt_eq : ∀ (l m : List Int) (c : Int), l.length = m.length → cnt l c = cnt m c
  | [], [], _, _ => rfl
  | [], _ :: _, _, h => by simp at h
  | _ :: _, [], _, h => by simp at h
  | _ :: xs, _ :: ys, c, h => by simp only [cnt]; rw [cnt_eq xs ys _ (by simpa using h)]
theorem sameI_loop (l : List Int) (hl : l.length ≤ 4000000) (d : Nat) : ∀ (k n : Nat), n + d = l.length → d < k → laws_sameInts.l0 k l l (n : Int) = some true := by
  induction d with
  | zero =>
    intro k n hn hk
    obtain ⟨k, rfl⟩ := round hk
    simp only [laws_sameInts.l0]
    rw [if_neg (by omega)]
  | succ d ih =>
    intro k n hn hk
    obtain ⟨k, rfl⟩ := round hk
    simp only [laws_sameInts.l0]
    rw [if_pos (by omega), if_pos (by omega), if_pos (by omega), if_pos trivial, w_succ (by omega), ih k (n + 1) (by omega) (by omega)]
theorem sameI (l : List Int) (hl : l.length ≤ 4000000) (k : Nat) (hk : l.length < k) : laws_sameInts.f k l l = some true := by
  unfold laws_sameInts.f
  rw [if_pos rfl]
  exact sameI_loop l hl l.length k 0 (by omega) hk
theorem in21 (P : Int → Prop) (h : ∀ n : Fin 21, P (n.val : Int)) (a : Int) (ha : 0 ≤ a ∧ a ≤ 20) : P a := by
  have := h ⟨a.toNat, by omega⟩
  have e : ((a.toNat : Nat) : Int) = a := by omega
  rw [← e]
  exact this
theorem vld_no {s : Int} (b : Bool) (h : ¬ (0 ≤ s ∧ s ≤ 20)) : vld s b = false := by
  cases hv : vld s b with
  | false => rfl
  | true => exact absurd (vld_bd hv) h
theorem height_eq (s : Int) (b : Bool) (h : vld s b = true) : ∃ v, impl_Tone_height.f s b = some v ∧ spec_l1Height.f s b = some v ∧ 0 ≤ v ∧ v ≤ 40 - 6 := by
  have := in21 (fun s => ∀ b, vld s b = true → (impl_Tone_height.f s b).all (fun v => decide (0 ≤ v) && decide (v ≤ 34)) = true ∧ (impl_Tone_height.f s b).isSome = true ∧ impl_Tone_height.f s b = spec_l1Height.f s b) (by decide +kernel) s (vld_bd h) b h
  obtain ⟨h1, h2, h3⟩ := this
  obtain ⟨v, hv⟩ := Option.isSome_iff_exists.1 h2
  rw [hv] at h1
  simp at h1
  exact ⟨v, hv, h3 ▸ hv, h1.1, by omega⟩
/-- The differences between each two tones that follow each other. -/
def dl (g : St → Int) : List St → List Int
  | a :: b :: ts => (g b - g a) :: dl g (b :: ts)
  | _ => []
theorem dl_len (g : St → Int) : ∀ l : List St, (dl g l).length = l.length - 1
  | [] => rfl
  | [_] => rfl
  | _ :: b :: ts => by simp only [dl, List.length_cons, dl_len g (b :: ts)]; omega
def dOf (g : St → Int) (l : List St) : List Int := if mv l = true then dl g l else []
theorem dOf_len (g : St → Int) (l : List St) : (dOf g l).length ≤ l.length := by
  unfold dOf
  split
  · rw [dl_len]; omega
  · simp
theorem dl_at (g : St → Int) (z : St) : ∀ (l : List St) (i : Nat), i + 1 < l.length → (dl g l).getD i 0 = g (l.getD (i + 1) z) - g (l.getD i z)
  | [], i, h => by simp at h
  | [_], i, h => by simp at h
  | a :: b :: ts, 0, h => rfl
  | a :: b :: ts, i + 1, h => by
    have := dl_at g z (b :: ts) i (by simp at h ⊢; omega)
    simp only [dl, List.getD_cons_succ]
    exact this
theorem mv_all {l : List St} (h : mv l = true) : ∀ t ∈ l, vld t.f0 t.f1 = true := by
  simp only [mv, Bool.and_eq_true, List.all_eq_true] at h
  exact h.1
theorem mv_at {l : List St} (h : mv l = true) {i : Nat} (hi : i < l.length) (z : St) : vld (l.getD i z).f0 (l.getD i z).f1 = true := by
  refine mv_all h _ ?_
  rw [List.getD_eq_getElem?_getD, List.getElem?_eq_getElem hi]
  exact List.getElem_mem hi
theorem diffs_dl {D : St → St → Option (Int × Bool)} {g : St → Int} (hD : ∀ a b : St, vld a.f0 a.f1 = true → vld b.f0 b.f1 = true → D a b = some (g b - g a, true)) :
    ∀ (l : List St) (acc : List Int), (∀ t ∈ l, vld t.f0 t.f1 = true) → diffs D l acc = some (acc ++ dl g l)
  | [], acc, _ => by simp [diffs, dl]
  | [_], acc, _ => by simp [diffs, dl]
  | a :: b :: ts, acc, h => by
    simp only [diffs, dl]
    rw [hD a b (h a (by simp)) (h b (by simp))]
    simp only [Option.bind_some]
    rw [if_pos trivial, diffs_dl hD (b :: ts) _ (fun t ht => h t (List.mem_cons_of_mem _ ht)), List.append_assoc]
    rfl
def stp (t : St) : Int := t.f0
theorem impl_steps {a b : St} (ha : vld a.f0 a.f1 = true) (hb : vld b.f0 b.f1 = true) : impl_ToneSteps.f a.f0 a.f1 b.f0 b.f1 = some (stp b - stp a, true) := by
  have h1 := vld_bd ha
  have h2 := vld_bd hb
  unfold impl_ToneSteps.f stp
  rw [impl_valid]
  simp only [Option.bind_some]
  rw [if_pos ha, impl_valid]
  simp only [Option.bind_some]
  rw [if_pos hb, w64 (by omega) (by omega)]
theorem implSteps (l : List St) (hl : l.length ≤ 1048576) (k : Nat) (hk : l.length < k) : impl_MelodySteps.f k l = some (dOf stp l) := by
  unfold impl_MelodySteps.f dOf
  rw [implMelody l hl k hk]
  simp only [Option.bind_some]
  by_cases h : mv l = true
  · rw [if_pos h, if_pos h, diffs_dl (D := impl_MelodySteps.D k) (g := stp) (fun a b ha hb => impl_steps ha hb) l [] (mv_all h), List.nil_append]
  · rw [if_neg h, if_neg h]
theorem specSteps_loop (l : List St) (hl : l.length ≤ 1048576) (hv : mv l = true) (d : Nat) : ∀ (k m : Nat) (x : List Int), m + 1 + d = l.length → d + l.length + 1 < k → x.length ≤ m →
    spec_MelodySteps.l0 k l x ((m + 1 : Nat) : Int) = some (x ++ dl stp (l.drop m)) := by
  induction d with
  | zero =>
    intro k m x hm hk hx
    obtain ⟨k, rfl⟩ := round hk
    simp only [spec_MelodySteps.l0]
    rw [if_neg (by omega), drop_at l m z31 (by omega), List.drop_eq_nil_of_le (by omega)]
    simp [dl]
  | succ d ih =>
    intro k m x hm hk hx
    obtain ⟨k, rfl⟩ : ∃ j, k = j + 1 := ⟨k - 1, by omega⟩
    simp only [spec_MelodySteps.l0]
    rw [if_pos (by omega), specMelody l hl k (by omega)]
    simp only [Option.bind_some]
    have e1 : wrap64 (((m + 1 : Nat) : Int) - 1) = (m : Int) := by rw [w64 (by omega) (by omega)]; omega
    rw [if_pos hv, e1, if_pos (by omega), if_pos (by omega), if_pos (by omega), if_pos (by omega), rd_s, rd_s, w_succ (by omega)]
    have hm1 : m < l.length := by omega
    have hm2 : m + 1 < l.length := by omega
    have b1 := vld_bd (mv_at hv hm1 z31)
    have b2 := vld_bd (mv_at hv hm2 z31)
    rw [w64 (by omega) (by omega), ih k (m + 1) _ (by omega) (by omega) (by simp; omega), drop_at l m z31 hm1, drop_at l (m + 1) z31 hm2, List.append_assoc]
    rfl
theorem specSteps (l : List St) (hl : l.length ≤ 1048576) (k : Nat) (hk : 2 * l.length + 2 < k) : spec_MelodySteps.f k l = some (dOf stp l) := by
  unfold spec_MelodySteps.f
  match hlen : l.length with
  | 0 =>
    obtain ⟨k, rfl⟩ := round hk
    obtain rfl : l = [] := List.eq_nil_of_length_eq_zero hlen
    simp only [spec_MelodySteps.l0]
    rw [if_neg (by simp)]
    simp [dOf, dl]
  | n + 1 =>
    by_cases h : mv l = true
    · have := specSteps_loop l hl h n k 0 [] (by omega) (by omega) (by simp)
      unfold dOf
      rw [if_pos h]
      simpa using this
    · obtain ⟨k, rfl⟩ := round hk
      simp only [spec_MelodySteps.l0]
      unfold dOf
      rw [if_neg h]
      by_cases c : (1 : Int) < (l.length : Int)
      · rw [if_pos c, specMelody l hl k (by omega)]
        simp only [Option.bind_some]
        rw [if_neg h]
      · rw [if_neg c]
/-- The height of a tone. -/
def hgt (t : St) : Int := (impl_Tone_height.f t.f0 t.f1).getD 0
theorem hgt_eq {t : St} (h : vld t.f0 t.f1 = true) : impl_Tone_height.f t.f0 t.f1 = some (hgt t) ∧ spec_l1Height.f t.f0 t.f1 = some (hgt t) ∧ 0 ≤ hgt t ∧ hgt t ≤ 34 := by
  obtain ⟨v, e1, e2, h1, h2⟩ := height_eq t.f0 t.f1 h
  have : hgt t = v := by unfold hgt; rw [e1]; rfl
  rw [this]
  exact ⟨e1, e2, h1, by omega⟩
theorem impl_semis {a b : St} (k : Nat) (hk : 0 < k) (ha : vld a.f0 a.f1 = true) (hb : vld b.f0 b.f1 = true) : impl_ToneSemis.f k a.f0 a.f1 b.f0 b.f1 = some (hgt b - hgt a, true) := by
  obtain ⟨k, rfl⟩ : ∃ j, k = j + 1 := ⟨k - 1, by omega⟩
  obtain ⟨e1, _, h1, h2⟩ := hgt_eq ha
  obtain ⟨e3, _, h3, h4⟩ := hgt_eq hb
  unfold impl_ToneSemis.f
  rw [impl_valid]
  simp only [Option.bind_some]
  rw [if_pos ha, impl_valid]
  simp only [Option.bind_some, impl_ToneSemis.j0]
  rw [hb, if_neg (by simp), e3]
  simp only [Option.bind_some]
  rw [e1]
  simp only [Option.bind_some]
  rw [w64 (by omega) (by omega)]
theorem implSemis (l : List St) (hl : l.length ≤ 1048576) (k : Nat) (hk : l.length < k) : impl_MelodySemis.f k l = some (dOf hgt l) := by
  unfold impl_MelodySemis.f dOf
  rw [implMelody l hl k hk]
  simp only [Option.bind_some]
  by_cases h : mv l = true
  · rw [if_pos h, if_pos h, diffs_dl (D := impl_MelodySemis.D k) (g := hgt) (fun a b ha hb => impl_semis k (by omega) ha hb) l [] (mv_all h), List.nil_append]
  · rw [if_neg h, if_neg h]
theorem xor_i64 (a b : Int) (h1 : 0 ≤ a) (h2 : a < 4611686018427387904) (h3 : 0 ≤ b) (h4 : b < 4611686018427387904) : 0 ≤ Go.bits .xor .i64 a b := by
  obtain ⟨A, rfl⟩ := Int.eq_ofNat_of_zero_le h1
  obtain ⟨B, rfl⟩ := Int.eq_ofNat_of_zero_le h3
  have hA : (BitVec.ofInt 64 (A : Int)).toNat = A := by
    rw [BitVec.ofInt_natCast, BitVec.toNat_ofNat]; exact Nat.mod_eq_of_lt (by omega)
  have hB : (BitVec.ofInt 64 (B : Int)).toNat = B := by
    rw [BitVec.ofInt_natCast, BitVec.toNat_ofNat]; exact Nat.mod_eq_of_lt (by omega)
  have hx : A ^^^ B < 2 ^ 62 := Nat.xor_lt_two_pow (by omega) (by omega)
  show 0 ≤ IntKind.i64.wrap ((BitVec.ofInt 64 (A : Int) ^^^ BitVec.ofInt 64 (B : Int)).toNat : Int)
  rw [BitVec.toNat_xor, hA, hB, i64_w]
  unfold wrap64
  omega
/-- The bytes that are read. -/
def Bytes (l : List Int) : Prop := l.length ≤ 2000 ∧ ∀ x ∈ l, 0 ≤ x ∧ x ≤ 255
theorem rd_byte {l : List Int} (h : Bytes l) (i : Int) : 0 ≤ rd l i ∧ rd l i ≤ 255 := by
  unfold rd
  rw [List.getD_eq_getElem?_getD]
  cases hx : l[i.toNat]? with
  | none => simp
  | some x => exact h.2 x (List.mem_of_getElem? hx)
theorem pick_ok (k : Nat) {l : List Int} (h : Bytes l) (p n : Int) (hp : 0 ≤ p ∧ p ≤ 1000000) (hn : 1 ≤ n ∧ n ≤ 1000000) : ∃ v, spec_l6Rd_pick.f (k + 1) l p n = some (v, p + 1) ∧ 0 ≤ v ∧ v < n := by
  obtain ⟨hlen, hb⟩ := id h
  unfold spec_l6Rd_pick.f
  rw [if_neg (by omega), w64 (by omega) (by omega)]
  simp only [spec_l6Rd_pick.j0]
  by_cases h0 : (l.length : Int) = 0
  · rw [if_pos (by simpa using h0)]
    exact ⟨0, rfl, by omega, by omega⟩
  · rw [if_neg (by simpa using h0)]
    have hL : 0 < (l.length : Int) := by omega
    rw [show p + 1 - 1 = p by omega, w64 (x := p) (by omega) (by omega)]
    have fin : ∀ x : Int, 0 ≤ x → ∃ v, some (Int.tmod x n, p + 1) = some (v, p + 1) ∧ 0 ≤ v ∧ v < n := fun x hx =>
      ⟨_, rfl, by rw [Int.tmod_eq_emod_of_nonneg hx]; exact Int.emod_nonneg _ (by omega), by rw [Int.tmod_eq_emod_of_nonneg hx]; exact Int.emod_lt_of_pos _ (by omega)⟩
    by_cases h1 : p < (l.length : Int)
    · rw [if_pos h1, if_pos hp.1, if_neg (by omega)]
      have hr := rd_byte h p
      rw [w64 (by omega) (by omega)]
      exact fin _ hr.1
    · rw [if_neg h1, if_neg h0]
      have e1 : Int.tmod p (l.length : Int) = p % (l.length : Int) := Int.tmod_eq_emod_of_nonneg hp.1
      have m0 := Int.emod_nonneg p (show (l.length : Int) ≠ 0 by omega)
      have m1 := Int.emod_lt_of_pos p hL
      have e2 : Int.tmod (wrap64 (wrap64 (p * 7) + 3)) (l.length : Int) = (p * 7 + 3) % (l.length : Int) := by
        rw [w64 (x := p * 7) (by omega) (by omega), w64 (by omega) (by omega)]
        exact Int.tmod_eq_emod_of_nonneg (by omega)
      have n0 := Int.emod_nonneg (p * 7 + 3) (show (l.length : Int) ≠ 0 by omega)
      have n1 := Int.emod_lt_of_pos (p * 7 + 3) hL
      have e3 : Int.tdiv p (l.length : Int) = p / (l.length : Int) := Int.tdiv_eq_ediv_of_nonneg hp.1
      have d0 : 0 ≤ p / (l.length : Int) := Int.ediv_nonneg hp.1 (by omega)
      have d1 : p / (l.length : Int) ≤ p := Int.ediv_le_self _ hp.1
      rw [e1, e2, e3, if_pos m0, if_pos m1, if_pos n0, if_pos n1, if_neg (by omega)]
      have r1 := rd_byte h (p % (l.length : Int))
      have r2 := rd_byte h ((p * 7 + 3) % (l.length : Int))
      generalize rd l (p % (l.length : Int)) = a at r1 ⊢
      generalize rd l ((p * 7 + 3) % (l.length : Int)) = b at r2 ⊢
      generalize p / (l.length : Int) = d at d0 d1 ⊢
      have s1 : wrap64 (wrap64 (wrap64 (wrap64 (wrap64 a * 131) + wrap64 (wrap64 b * 1117)) + wrap64 (p * 29)) + wrap64 (wrap64 d * 53)) = a * 131 + b * 1117 + p * 29 + d * 53 := by
        rw [w64 (x := a) (by omega) (by omega), w64 (x := b) (by omega) (by omega), w64 (x := d) (by omega) (by omega), w64 (x := a * 131) (by omega) (by omega), w64 (x := b * 1117) (by omega) (by omega),
          w64 (x := p * 29) (by omega) (by omega), w64 (x := d * 53) (by omega) (by omega), w64 (x := a * 131 + b * 1117) (by omega) (by omega), w64 (x := a * 131 + b * 1117 + p * 29) (by omega) (by omega), w64 (by omega) (by omega)]
      rw [s1]
      refine fin _ (xor_i64 _ _ (by omega) (by omega) ?_ ?_)
      · rw [Int.tdiv_eq_ediv_of_nonneg (by omega), w64 (by omega) (by omega)]; omega
      · rw [Int.tdiv_eq_ediv_of_nonneg (by omega), w64 (by omega) (by omega)]; omega
theorem open_ok (l : List Int) (hw : ∀ x ∈ l, (Lit.int .u8 x).wf = true) : ∃ l', spec_l6Open.f l = some (l', 0) ∧ Bytes l' := by
  have hb : ∀ x ∈ l, 0 ≤ x ∧ x ≤ 255 := fun x hx => by
    have := hw x hx
    simp only [Lit.wf, IntKind.min, IntKind.max, IntKind.signed, IntKind.bits, Bool.and_eq_true, decide_eq_true_eq, Bool.false_eq_true, if_false] at this
    omega
  unfold spec_l6Open.f
  by_cases h : (l.length : Int) > 2000
  · rw [if_pos h, if_pos (by omega)]
    exact ⟨_, rfl, by simp; omega, fun x hx => hb x (List.mem_of_mem_take hx)⟩
  · rw [if_neg h]
    exact ⟨_, rfl, by omega, hb⟩
theorem step_bd (x : Int) : 1 ≤ mx 1 (mn 15 x) ∧ mx 1 (mn 15 x) ≤ 15 := by
  unfold mx mn
  split <;> split <;> omega
theorem l91_loop {b : List Int} (h : Bytes b) (n : Int) (h0 : 0 ≤ n) (h10 : n ≤ 10) (d : Nat) : ∀ (k i : Nat) (x : List St) (s p : Int), (i : Int) + d = n → d + 1 < k → x.length = i → 1 ≤ s ∧ s ≤ 15 → 0 ≤ p ∧ p ≤ 1000 - 3 * (d : Int) →
    ∃ m q, spec_l91Melody.l0 k x n s (i : Int) b p = some (m, q) ∧ (m.length : Int) = n := by
  induction d with
  | zero =>
    intro k i x s p hi hk hx hs hp
    obtain ⟨k, rfl⟩ : ∃ j, k = j + 2 := ⟨k - 2, by omega⟩
    simp only [spec_l91Melody.l0]
    rw [if_neg (by omega)]
    by_cases c : n > 0
    · rw [if_pos c]
      obtain ⟨v, e, v0, v1⟩ := pick_ok k h p 50 (by omega) (by omega)
      rw [e]
      simp only [Option.bind_some]
      by_cases c0 : v = 0
      · rw [if_pos c0]
        obtain ⟨u, e2, u0, u1⟩ := pick_ok k h (p + 1) 3 (by omega) (by omega)
        rw [e2]
        simp only [Option.bind_some]
        rw [if_pos u0, if_pos (by simpa using u1), if_pos (by omega)]
        exact ⟨_, _, rfl, by simp; omega⟩
      · rw [if_neg c0]
        by_cases c1 : v = 1
        · rw [if_pos c1, w64 (by omega) (by omega), if_pos (by omega), if_pos (by omega)]
          exact ⟨_, _, rfl, by simp; omega⟩
        · rw [if_neg c1]
          exact ⟨_, _, rfl, by omega⟩
    · rw [if_neg c]
      exact ⟨_, _, rfl, by omega⟩
  | succ d ih =>
    intro k i x s p hi hk hx hs hp
    obtain ⟨k, rfl⟩ : ∃ j, k = j + 2 := ⟨k - 2, by omega⟩
    simp only [spec_l91Melody.l0]
    rw [if_pos (by omega)]
    unfold spec_l1Letter.f
    simp only [Option.bind_some]
    by_cases c2 : Int.tmod s 7 = 2
    · rw [if_pos c2]
      obtain ⟨v, e, v0, v1⟩ := pick_ok k h p 3 (by omega) (by omega)
      rw [e]
      simp only [Option.bind_some]
      rw [if_pos (by omega)]
      obtain ⟨u, e2, u0, u1⟩ := pick_ok k h (p + 1) 5 (by omega) (by omega)
      rw [e2]
      simp only [Option.bind_some]
      rw [w_succ (by omega)]
      exact ih (k + 1) (i + 1) _ _ _ (by omega) (by omega) (by simp; omega) (step_bd _) (by omega)
    · rw [if_neg c2, if_pos (by omega)]
      obtain ⟨u, e2, u0, u1⟩ := pick_ok k h p 5 (by omega) (by omega)
      rw [e2]
      simp only [Option.bind_some]
      rw [w_succ (by omega)]
      exact ih (k + 1) (i + 1) _ _ _ (by omega) (by omega) (by simp; omega) (step_bd _) (by omega)
theorem l91_ok (k : Nat) {b : List Int} (h : Bytes b) : ∃ m q, spec_l91Melody.f (k + 15) b 0 10 = some (m, q) ∧ m.length ≤ 10 := by
  unfold spec_l91Melody.f
  rw [w64 (by omega) (by omega)]
  obtain ⟨v, e, v0, v1⟩ := pick_ok (k + 14) h 0 11 (by omega) (by omega)
  rw [show (10 : Int) + 1 = 11 by omega, e]
  simp only [Option.bind_some]
  obtain ⟨u, e2, u0, u1⟩ := pick_ok (k + 14) h (0 + 1) 5 (by omega) (by omega)
  rw [e2]
  simp only [Option.bind_some]
  rw [w64 (by omega) (by omega)]
  obtain ⟨m, q, e3, hm⟩ := l91_loop h v v0 (by omega) v.toNat (k + 15) 0 [] (4 + u) (0 + 1 + 1) (by omega) (by omega) rfl (by omega) (by omega)
  exact ⟨m, q, e3, by omega⟩
theorem draw_steps (k : Nat) (l : List Int) (hw : ∀ x ∈ l, (Lit.int .u8 x).wf = true) : ∃ m, spec_DrawMelodySteps.f (k + 15) l = some m ∧ m.length ≤ 10 := by
  unfold spec_DrawMelodySteps.f
  obtain ⟨b, e, hb⟩ := open_ok l hw
  rw [e]
  simp only [Option.bind_some]
  obtain ⟨m, q, e2, hm⟩ := l91_ok k hb
  rw [e2]
  exact ⟨m, rfl, hm⟩
def sumL : List Int → Int
  | [] => 0
  | x :: xs => x + sumL xs
theorem sum_loop (l : List Int) (hl : l.length ≤ 1000) (hb : ∀ x ∈ l, -100 ≤ x ∧ x ≤ 100) (d : Nat) : ∀ (k n : Nat) (s : Int), n + d = l.length → d < k → -100 * (n : Int) ≤ s ∧ s ≤ 100 * (n : Int) → laws_sumOf.l0 k l s (n : Int) = some (s + sumL (l.drop n)) := by
  induction d with
  | zero =>
    intro k n s hn hk hs
    obtain ⟨k, rfl⟩ := round hk
    simp only [laws_sumOf.l0]
    rw [if_neg (by omega), show l.drop n = [] from List.drop_eq_nil_of_le (by omega)]
    simp [sumL]
  | succ d ih =>
    intro k n s hn hk hs
    obtain ⟨k, rfl⟩ := round hk
    simp only [laws_sumOf.l0]
    have hn1 : n < l.length := by omega
    have hx := hb (l.getD n 0) (by rw [List.getD_eq_getElem?_getD, List.getElem?_eq_getElem hn1]; exact List.getElem_mem hn1)
    rw [if_pos (by omega), if_pos (by omega), rd_n, w_succ (by omega), w64 (by omega) (by omega), ih k (n + 1) _ (by omega) (by omega) (by omega), dropI l n hn1]
    simp only [sumL]
    congr 1
    omega
theorem sumOk (l : List Int) (hl : l.length ≤ 1000) (hb : ∀ x ∈ l, -100 ≤ x ∧ x ≤ 100) (k : Nat) (hk : l.length < k) : laws_sumOf.f k l = some (sumL l) := by
  unfold laws_sumOf.f
  have := sum_loop l hl hb l.length k 0 0 (by omega) hk (by omega)
  simpa using this
theorem dl_sum (g : St → Int) (z : St) : ∀ (a : St) (ts : List St), sumL (dl g (a :: ts)) = g ((a :: ts).getD ts.length z) - g a
  | a, [] => by simp [dl, sumL]
  | a, b :: ts => by
    have := dl_sum g z b ts
    simp only [dl, sumL, this, List.length_cons, List.getD_cons_succ]
    omega
theorem dl_bd {g : St → Int} (hg : ∀ t, vld t.f0 t.f1 = true → 0 ≤ g t ∧ g t ≤ 40) : ∀ (l : List St), (∀ t ∈ l, vld t.f0 t.f1 = true) → ∀ x ∈ dl g l, -100 ≤ x ∧ x ≤ 100
  | [], _, x, hx => by simp [dl] at hx
  | [_], _, x, hx => by simp [dl] at hx
  | a :: b :: ts, h, x, hx => by
    simp only [dl, List.mem_cons] at hx
    rcases hx with rfl | hx
    · have := hg a (h a (by simp))
      have := hg b (h b (by simp))
      omega
    · exact dl_bd hg (b :: ts) (fun t ht => h t (List.mem_cons_of_mem _ ht)) x hx
theorem stp_bd (t : St) (h : vld t.f0 t.f1 = true) : 0 ≤ stp t ∧ stp t ≤ 40 := by
  have := vld_bd h
  unfold stp
  omega
theorem hgt_bd (t : St) (h : vld t.f0 t.f1 = true) : 0 ≤ hgt t ∧ hgt t ≤ 40 := by
  have := hgt_eq h
  omega
theorem FnMelodySteps (l : List Int) (hm : l.length ≤ 9223372036854775807) (hw : ∀ x ∈ l, (Lit.int .u8 x).wf = true) : ∃ k, laws_FnMelodySteps.f k l = some true := by
  refine ⟨100 + 15, ?_⟩
  unfold laws_FnMelodySteps.f
  by_cases h : (l.length : Int) > 1048576
  · rw [if_pos h]
  rw [if_neg h]
  obtain ⟨m, e, hl⟩ := draw_steps 100 l hw
  rw [e]
  simp only [Option.bind_some]
  have hd := dOf_len stp m
  rw [implSteps m (by omega) _ (by omega), specSteps m (by omega) _ (by omega)]
  simp only [Option.bind_some]
  rw [sameI _ (by omega) _ (by omega)]
  simp only [Option.bind_some, if_true, laws_FnMelodySteps.j0]
  by_cases hz : (dOf stp m).length = 0
  · rw [if_pos (by simpa using hz), sameI _ (by omega) _ (by omega)]
    rfl
  · rw [if_neg (by simpa using hz)]
    have hv : mv m = true := by
      cases hv : mv m with
      | true => rfl
      | false => exact absurd (by unfold dOf; rw [hv]; rfl) hz
    have e1 : ∀ g, dOf g m = dl g m := fun g => by unfold dOf; rw [if_pos hv]
    rw [e1] at hz ⊢
    rw [dl_len] at hz
    obtain ⟨a, ts, rfl⟩ : ∃ a ts, m = a :: ts := by
      cases m with
      | nil => simp at hz
      | cons a ts => exact ⟨a, ts, rfl⟩
    have hlc : (a :: ts).length = ts.length + 1 := rfl
    have hp : 0 < ts.length := by omega
    have e2 : wrap64 (((a :: ts).length : Int) - 1) = (ts.length : Int) := by rw [w64 (by omega) (by omega)]; omega
    have va := mv_all hv a (by simp)
    have vb := mv_at hv (i := ts.length) (by simp) z31
    have r0 : rd_T31 (a :: ts) 0 = a := rfl
    rw [e2, if_pos (by omega), if_pos (by omega), if_pos (by omega), rd_s, r0]
    rw [impl_steps va vb]
    simp only [Option.bind_some]
    rw [impl_semis _ (by omega) va vb]
    simp only [Option.bind_some]
    rw [implSemis (a :: ts) (by omega) _ (by omega), e1]
    simp only [Option.bind_some]
    rw [if_pos trivial, if_pos trivial, if_pos (by rw [dl_len]; simp), if_pos (by rw [dl_len]; simp)]
    rw [sumOk _ (by rw [dl_len]; omega) (dl_bd stp_bd _ (mv_all hv)) _ (by rw [dl_len]; omega), sumOk _ (by rw [dl_len]; omega) (dl_bd hgt_bd _ (mv_all hv)) _ (by rw [dl_len]; omega)]
    simp only [Option.bind_some]
    rw [dl_sum stp z31, dl_sum hgt z31, if_pos rfl]
    simp
end Go.Proofs.YtiddkhhcophbfaaDoor.ZH
