/- The plain laws: what the Lean functions of the walks come to. No program and no memory in sight. No condition beyond what each theorem says. -/
import Derived.Test.YtpfgeflnhkpmaaaDoorXHx2
import Derived.Test.YtpfgeflnhkpmaaaDoorXHx3
import Derived.Test.YtpfgeflnhkpmaaaDoorXHx5
import Derived.Test.YtpfgeflnhkpmaaaDoorXHx6
import Derived.Test.YtpfgeflnhkpmaaaDoorXHx7
namespace Go.Proofs.YtpfgeflnhkpmaaaDoor.ZH
open Go.RowKit Go.Proofs.YtpfgeflnhkpmaaaDoor.XH Go.Proofs.YtpfgeflnhkpmaaaDoorW.PrintWords Go.Proofs.YtpfgeflnhkpmaaaDoorW.PrintLast
set_option linter.unusedVariables false
set_option linter.unusedSimpArgs false
theorem w64 {x : Int} (h0 : -9223372036854775808 ≤ x) (h1 : x < 9223372036854775808) : wrap64 x = x := by unfold wrap64; omega
/-- Not by rfl: so simp leaves a proof, and the kernel need not compare the two sides by running them. -/
theorem bs {α β : Type} (a : α) (f : α → Option β) : (some a).bind f = f a := by
  have h : ∀ o : Option α, o = some a → o.bind f = f a := by
    rintro _ rfl
    rfl
  exact h _ rfl
/-- A tone of the gamut. -/
def vld (s : Int) (b : Bool) : Bool := decide (0 ≤ s) && (decide (s ≤ 20) && (!b || (Int.tmod s 7 == 2)))
theorem vld_bd {s : Int} {b : Bool} (h : vld s b = true) : 0 ≤ s ∧ s ≤ 20 := by
  simp only [vld, Bool.and_eq_true, decide_eq_true_eq] at h
  exact ⟨h.1, h.2.1⟩
theorem spec_valid (s : Int) (b : Bool) : spec_ToneValid.f s b = some (vld s b) := by
  unfold spec_ToneValid.f spec_l6In.f spec_l1Letter.f vld
  by_cases h0 : 0 ≤ s
  · rw [if_pos h0, decide_eq_true h0]
    by_cases h1 : s ≤ 20
    · cases b <;> simp [h1]
    · simp [h1]
  · rw [if_neg h0, decide_eq_false h0]
    simp
theorem impl_valid (s : Int) (b : Bool) : impl_Tone_valid.f s b = some (vld s b) := by
  unfold impl_Tone_valid.f vld
  by_cases h0 : 0 ≤ s
  · rw [if_pos h0, decide_eq_true h0]
    by_cases h1 : s ≤ 20
    · cases b <;> simp [h1]
    · simp [h1]
  · rw [if_neg h0, decide_eq_false h0]
    simp
abbrev St := S25
abbrev Lt := S23
def cv (l : List Lt) : List St := l.map fun x => ⟨x.f0, x.f1⟩
theorem cv_len (l : List Lt) : (cv l).length = l.length := by simp [cv]
theorem w_succ {n : Nat} (h : n < 4611686018427387904) : wrap64 ((n : Int) + 1) = ((n + 1 : Nat) : Int) := by
  rw [w64 (by omega) (by omega)]; omega
theorem drop_at {α : Type} (l : List α) (n : Nat) (z : α) (h : n < l.length) : l.drop n = l.getD n z :: l.drop (n + 1) := by
  rw [List.drop_eq_getElem_cons h, List.getD_eq_getElem?_getD, List.getElem?_eq_getElem h]; rfl
theorem rd_s (l : List St) (n : Nat) : rd_T25 l (n : Int) = l.getD n z25 := by
  unfold rd_T25; rw [Int.toNat_natCast]
theorem rd_l (l : List Lt) (n : Nat) : rd_T23 l (n : Int) = l.getD n z23 := by
  unfold rd_T23; rw [Int.toNat_natCast]
theorem round {k d : Nat} (h : d < k) : ∃ m, k = m + 1 := ⟨k - 1, by omega⟩
theorem toTones_loop (l : List Lt) (hl : l.length ≤ 1048576) (d : Nat) : ∀ (k n : Nat) (x : List St), n + d = l.length → d < k → x.length = l.length →
    laws_toToneS.l0 k l x (n : Int) = some (x.take n ++ (cv l).drop n) := by
  induction d with
  | zero =>
    intro k n x hn hk hx
    obtain ⟨k, rfl⟩ := round hk
    simp only [laws_toToneS.l0]
    rw [if_neg (by omega), List.take_of_length_le (by omega), List.drop_eq_nil_of_le (by rw [cv_len]; omega), List.append_nil]
  | succ d ih =>
    intro k n x hn hk hx
    obtain ⟨k, rfl⟩ := round hk
    simp only [laws_toToneS.l0]
    rw [if_pos (by omega), if_pos (by omega)]
    unfold laws_toTone.f
    simp only [Option.bind_some]
    rw [if_pos (by omega), w_succ (by omega), Int.toNat_natCast, rd_l]
    rw [ih k (n + 1) _ (by omega) (by omega) (by simp [hx])]
    have h1 : n < (cv l).length := by rw [cv_len]; omega
    rw [drop_at (cv l) n ⟨0, false⟩ h1]
    congr 1
    have h2 : (cv l).getD n ⟨0, false⟩ = ⟨(l.getD n z23).f0, (l.getD n z23).f1⟩ := by
      have h3 : n < l.length := by omega
      simp [cv, List.getD_eq_getElem?_getD, List.getElem?_eq_getElem h3]
    rw [h2, List.take_add_one, List.take_set_of_le (Nat.le_refl _), List.getElem?_set_self (by omega)]
    simp
theorem toTones (l : List Lt) (hl : l.length ≤ 1048576) (k : Nat) (hk : l.length < k) : laws_toToneS.f k l = some (cv l) := by
  unfold laws_toToneS.f
  rw [if_pos (by omega), if_pos (by omega), Int.toNat_natCast]
  have := toTones_loop l hl l.length k 0 (List.replicate l.length z25) (by omega) hk (by simp)
  simpa using this
/-- A list is a melody. -/
def mv (l : List St) : Bool := l.all (fun t => vld t.f0 t.f1) && decide (l.length ≤ 24)
theorem specMelody_loop (l : List St) (hl : l.length ≤ 1048576) (d : Nat) : ∀ (k n : Nat), n + d = l.length → d < k →
    spec_MelodyValid.l0 k l (n : Int) = some ((l.drop n).all (fun t => vld t.f0 t.f1) && decide (l.length ≤ 24)) := by
  induction d with
  | zero =>
    intro k n hn hk
    obtain ⟨k, rfl⟩ := round hk
    simp only [spec_MelodyValid.l0]
    rw [if_neg (by omega), List.drop_eq_nil_of_le (by omega)]
    simp
    omega
  | succ d ih =>
    intro k n hn hk
    obtain ⟨k, rfl⟩ := round hk
    simp only [spec_MelodyValid.l0]
    rw [if_pos (by omega), if_pos (by omega), spec_valid, rd_s, w_succ (by omega), ih k (n + 1) (by omega) (by omega), drop_at l n z25 (by omega), List.all_cons]
    cases vld (l.getD n z25).f0 (l.getD n z25).f1 <;> simp
theorem specMelody (l : List St) (hl : l.length ≤ 1048576) (k : Nat) (hk : l.length < k) : spec_MelodyValid.f k l = some (mv l) := by
  unfold spec_MelodyValid.f mv
  have := specMelody_loop l hl l.length k 0 (by omega) hk
  simpa using this
theorem implMelody_loop (l : List St) (hl : l.length ≤ 1048576) (d : Nat) : ∀ (k n : Nat), n + d = l.length → d < k →
    impl_MelodyValid.l0 k l (l.length : Int) (n : Int) = some ((l.drop n).all (fun t => vld t.f0 t.f1)) := by
  induction d with
  | zero =>
    intro k n hn hk
    obtain ⟨k, rfl⟩ := round hk
    simp only [impl_MelodyValid.l0]
    rw [if_neg (by omega), List.drop_eq_nil_of_le (by omega)]
    simp
  | succ d ih =>
    intro k n hn hk
    obtain ⟨k, rfl⟩ := round hk
    simp only [impl_MelodyValid.l0]
    rw [if_pos (by omega), if_pos (by omega), if_pos (by omega), impl_valid, rd_s, w_succ (by omega), ih k (n + 1) (by omega) (by omega), drop_at l n z25 (by omega), List.all_cons]
    cases vld (l.getD n z25).f0 (l.getD n z25).f1 <;> simp
theorem implMelody (l : List St) (hl : l.length ≤ 1048576) (k : Nat) (hk : l.length < k) : impl_MelodyValid.f k l = some (mv l) := by
  unfold impl_MelodyValid.f mv
  by_cases h : (l.length : Int) > 24
  · rw [if_pos h, decide_eq_false (by omega)]; simp
  · rw [if_neg h, decide_eq_true (by omega)]
    have := implMelody_loop l hl l.length k 0 (by omega) hk
    simpa using this
theorem eqTone_self (s : Int) (b : Bool) : laws_eqTone.f s b s b = some true := by
  unfold laws_eqTone.f; simp
theorem eqTones_loop (l : List St) (hl : l.length ≤ 1048576) (d : Nat) : ∀ (k n : Nat), n + d = l.length → d < k → laws_eqToneS.l0 k l l (n : Int) = some true := by
  induction d with
  | zero =>
    intro k n hn hk
    obtain ⟨k, rfl⟩ := round hk
    simp only [laws_eqToneS.l0]
    rw [if_neg (by omega)]
  | succ d ih =>
    intro k n hn hk
    obtain ⟨k, rfl⟩ := round hk
    simp only [laws_eqToneS.l0]
    rw [if_pos (by omega), if_pos (by omega), if_pos (by omega), eqTone_self, w_succ (by omega), ih k (n + 1) (by omega) (by omega)]
    simp
theorem eqTones (l : List St) (hl : l.length ≤ 1048576) (k : Nat) (hk : l.length < k) : laws_eqToneS.f k l l = some true := by
  unfold laws_eqToneS.f
  rw [if_pos rfl]
  exact eqTones_loop l hl l.length k 0 (by omega) hk
theorem szTones (l : List Lt) (c : Int) (hc : 0 ≤ c ∧ c ≤ 1048576) (hm : l.length ≤ 9223372036854775807) : laws_szToneS.f l c = some (if c < l.length then -1 else c - l.length) := by
  unfold laws_szToneS.f
  rw [w64 (by omega) (by omega)]
  by_cases h : c < l.length
  · rw [if_pos (by omega), if_pos h]
  · rw [if_neg (by omega), if_neg h]
theorem in21 (P : Int → Prop) (h : ∀ n : Fin 21, P (n.val : Int)) (a : Int) (ha : 0 ≤ a ∧ a ≤ 20) : P a := by
  have := h ⟨a.toNat, by omega⟩
  have e : ((a.toNat : Nat) : Int) = a := by omega
  rw [← e]
  exact this
/-- What HexTone gives lies in the gamut. -/
def htChk (s k : Int) : Bool := match spec_HexTone.f s k with
  | some (v, _, _) => decide (0 ≤ v) && decide (v ≤ 20)
  | none => false
theorem ht_all : ∀ (n : Fin 21) (k : Fin 6), htChk (n.val : Int) (k.val : Int) = true := by decide +kernel
theorem ht_ok (s k : Int) (hs : 0 ≤ s ∧ s ≤ 20) (hk : 0 ≤ k ∧ k < 6) : ∃ v b ok, spec_HexTone.f s k = some (v, b, ok) ∧ 0 ≤ v ∧ v ≤ 20 := by
  have h := in21 (fun s => htChk s k = true) (fun n => by
    have := ht_all n ⟨k.toNat, by omega⟩
    rwa [show ((k.toNat : Nat) : Int) = k by omega] at this) s hs
  unfold htChk at h
  cases e : spec_HexTone.f s k with
  | none => rw [e] at h; cases h
  | some r =>
    obtain ⟨v, b, ok⟩ := r
    rw [e] at h
    simp only [Bool.and_eq_true, decide_eq_true_eq] at h
    exact ⟨v, b, ok, rfl, h.1, h.2⟩
theorem specSyl_out (s t0 : Int) (t1 : Bool) (hs : 0 ≤ s ∧ s ≤ 20) (ht : ¬ (0 ≤ t0 ∧ t0 ≤ 20)) (d : Nat) : ∀ (k n : Nat), n + d = 6 → d < k → spec_HexSyllable.l0 k s (n : Int) t0 t1 = some (-1) := by
  induction d with
  | zero =>
    intro k n hn hk
    obtain ⟨k, rfl⟩ := round hk
    simp only [spec_HexSyllable.l0]
    rw [if_neg (by omega)]
  | succ d ih =>
    intro k n hn hk
    obtain ⟨k, rfl⟩ := round hk
    obtain ⟨v, b, ok, e, h0, h1⟩ := ht_ok s (n : Int) hs (by omega)
    simp only [spec_HexSyllable.l0]
    rw [if_pos (by omega), e]
    simp only [Option.bind_some]
    have e2 : (v == t0) = false := by
      have : v ≠ t0 := by omega
      simpa using this
    rw [e2, Bool.false_and, w_succ (by omega), ih k (n + 1) (by omega) (by omega)]
    split <;> simp
theorem specAll_out (t0 : Int) (t1 : Bool) (ht : ¬ (0 ≤ t0 ∧ t0 ≤ 20)) (d : Nat) : ∀ (k n : Nat), n + d = 21 → d + 10 < k → spec_HexAll.l0 k [] (n : Int) t0 t1 = some [] := by
  induction d with
  | zero =>
    intro k n hn hk
    obtain ⟨k, rfl⟩ : ∃ j, k = j + 1 := ⟨k - 1, by omega⟩
    simp only [spec_HexAll.l0]
    rw [if_neg (by omega)]
  | succ d ih =>
    intro k n hn hk
    obtain ⟨k, rfl⟩ : ∃ j, k = j + 1 := ⟨k - 1, by omega⟩
    simp only [spec_HexAll.l0]
    rw [if_pos (by omega)]
    unfold spec_HexSyllable.f
    have e := specSyl_out (n : Int) t0 t1 (by omega) ht 6 k 0 (by omega) (by omega)
    rw [show ((0 : Nat) : Int) = 0 from rfl] at e
    rw [e]
    simp only [Option.bind_some]
    rw [if_neg (by omega), w_succ (by omega), ih k (n + 1) (by omega) (by omega)]
theorem sylFrom_out (s : Nat) (t0 : Int) (t1 : Bool) (h : ∀ j : Nat, j < 6 → (s : Int) + (j : Int) ≠ t0) : ∀ (d i : Nat), i + d = 6 → sylFrom s t0 t1 d i = -1
  | 0, i, _ => rfl
  | d + 1, i, hi => by
    unfold sylFrom
    have : ((s : Int) + (i : Int) == t0) = false := by simpa using h i (by omega)
    rw [this, Bool.false_and, if_neg (by simp)]
    exact sylFrom_out s t0 t1 h d (i + 1) (by omega)
theorem syl_out {s : Nat} (hs : s ∈ hexStarts) {t0 : Int} (t1 : Bool) (ht : ¬ (0 ≤ t0 ∧ t0 ≤ 20)) : syl s t0 t1 = -1 := by
  have hs2 : s ≤ 14 := by
    simp only [hexStarts, List.mem_cons, List.not_mem_nil, or_false] at hs
    omega
  exact sylFrom_out s t0 t1 (fun j hj => by omega) 6 0 rfl
theorem have_out {t0 : Int} (t1 : Bool) (ht : ¬ (0 ≤ t0 ∧ t0 ≤ 20)) : hexHave t0 t1 hexStarts = [] := by
  unfold hexHave
  rw [List.map_eq_nil_iff, List.filter_eq_nil_iff]
  intro s hs
  rw [syl_out hs t1 ht]
  decide
theorem all_in : ∀ (n : Fin 21) (b : Bool), spec_HexAll.f 60 (n.val : Int) b = some (hexHave (n.val : Int) b hexStarts) := by decide +kernel
theorem specAll (t0 : Int) (t1 : Bool) (k : Nat) (hk : 60 ≤ k) : spec_HexAll.f k t0 t1 = some (hexHave t0 t1 hexStarts) := by
  by_cases h : 0 ≤ t0 ∧ t0 ≤ 20
  · have := in21 (fun t => ∀ b, spec_HexAll.f 60 t b = some (hexHave t b hexStarts)) all_in t0 h t1
    exact at_rounds (spec_HexAll.mono t0 t1) hk this
  · rw [have_out t1 h]
    unfold spec_HexAll.f
    exact specAll_out t0 t1 h 21 k 0 (by omega) (by omega)
theorem have_le (t0 : Int) (t1 : Bool) : (hexHave t0 t1 hexStarts).length ≤ 7 := by
  have := hexHave_len t0 t1 hexStarts
  have e : hexStarts.length = 7 := rfl
  omega
def manyFrom : List St → Int → Int
  | [], a => a
  | t :: ts, a => manyFrom ts (wrap64 (a * ((hexHave t.f0 t.f1 hexStarts).length : Int)))
theorem specMany_loop (l : List St) (hl : l.length ≤ 1048576) (d : Nat) : ∀ (k n : Nat) (a : Int), n + d = l.length → d + 61 < k → spec_SingMany.l0 k l a (n : Int) = some (manyFrom (l.drop n) a) := by
  induction d with
  | zero =>
    intro k n a hn hk
    obtain ⟨k, rfl⟩ : ∃ j, k = j + 1 := ⟨k - 1, by omega⟩
    simp only [spec_SingMany.l0]
    rw [if_neg (by omega), show l.drop n = [] from List.drop_eq_nil_of_le (by omega)]
    rfl
  | succ d ih =>
    intro k n a hn hk
    obtain ⟨k, rfl⟩ : ∃ j, k = j + 1 := ⟨k - 1, by omega⟩
    simp only [spec_SingMany.l0]
    rw [if_pos (by omega), if_pos (by omega), rd_s, specAll _ _ k (by omega)]
    simp only [Option.bind_some]
    rw [w_succ (by omega), ih k (n + 1) _ (by omega) (by omega), drop_at l n z25 (by omega)]
    rfl
theorem implMany_loop (l : List St) (hl : l.length ≤ 1048576) (d : Nat) : ∀ (k n : Nat) (a : Int), n + d = l.length → d < k → impl_SingMany.l0 k a l (l.length : Int) (n : Int) = some (manyFrom (l.drop n) a) := by
  induction d with
  | zero =>
    intro k n a hn hk
    obtain ⟨k, rfl⟩ := round hk
    simp only [impl_SingMany.l0]
    rw [if_neg (by omega), show l.drop n = [] from List.drop_eq_nil_of_le (by omega)]
    rfl
  | succ d ih =>
    intro k n a hn hk
    obtain ⟨k, rfl⟩ := round hk
    have hI : ∀ t : St, impl_HexAll.f t.f0 t.f1 = some (hexHave t.f0 t.f1 hexStarts) := fun _ => rfl
    simp only [impl_SingMany.l0]
    rw [if_pos (by omega), if_pos (by omega), if_pos (by omega), rd_s, hI]
    simp only [Option.bind_some]
    rw [w_succ (by omega), ih k (n + 1) _ (by omega) (by omega), drop_at l n z25 (by omega)]
    rfl
def manyOf (l : List St) : Int := if mv l = true then manyFrom l 1 else -1
theorem specMany (l : List St) (hl : l.length ≤ 1048576) (k : Nat) (hk : l.length + 61 < k) : spec_SingMany.f k l = some (manyOf l) := by
  unfold spec_SingMany.f manyOf
  rw [specMelody l hl k (by omega)]
  simp only [Option.bind_some]
  by_cases h : mv l = true
  · rw [if_pos h, if_pos h]
    have := specMany_loop l hl l.length k 0 1 (by omega) hk
    simpa using this
  · rw [if_neg h, if_neg h]
theorem implMany (l : List St) (hl : l.length ≤ 1048576) (k : Nat) (hk : l.length < k) : impl_SingMany.f k l = some (manyOf l) := by
  unfold impl_SingMany.f manyOf
  rw [implMelody l hl k hk]
  simp only [Option.bind_some]
  by_cases h : mv l = true
  · rw [if_pos h, if_pos h]
    have := implMany_loop l hl l.length k 0 1 (by omega) hk
    simpa using this
  · rw [if_neg h, if_neg h]
theorem FnExactSingMany (l : List Lt) (hm : l.length ≤ 9223372036854775807) (_ : ∀ x ∈ l, (Lit.int .i64 x.f0).wf = true ∧ True) : ∃ k, laws_FnExactSingMany.f k l = some true := by
  refine ⟨l.length + 70, ?_⟩
  unfold laws_FnExactSingMany.f
  rw [szTones l 1048576 (by omega) hm]
  simp only [Option.bind_some]
  by_cases h : (1048576 : Int) < l.length
  · rw [if_pos h, if_pos (by omega)]
  rw [if_neg h, if_neg (by omega)]
  have hl : l.length ≤ 1048576 := by omega
  have hc := cv_len l
  rw [toTones l hl _ (by omega)]
  simp only [Option.bind_some]
  rw [specMany (cv l) (by omega) _ (by omega), implMany (cv l) (by omega) _ (by omega)]
  simp only [Option.bind_some, if_true]
  rw [eqTones (cv l) (by omega) _ (by omega)]
  simp
end Go.Proofs.YtpfgeflnhkpmaaaDoor.ZH
