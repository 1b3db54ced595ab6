/- The plain laws: what the Lean functions of the walks come to. No program and no memory in sight. No condition beyond what each theorem says. -/
import Derived.Test.YtiddkhhcophbfaaXTx1
import Derived.Test.YtiddkhhcophbfaaXTx2
import Derived.Test.YtiddkhhcophbfaaXTx9
import Derived.Test.YtiddkhhcophbfaaXTx10
namespace Go.Proofs.Ytiddkhhcophbfaa.ZT
open Go.RowKit Go.Proofs.Ytiddkhhcophbfaa.XT Go.Proofs.YtiddkhhcophbfaaW.PrintWords Go.Proofs.YtiddkhhcophbfaaW.PrintLast
set_option linter.unusedVariables false
set_option linter.unusedSimpArgs false
theorem w64 {x : Int} (h0 : -9223372036854775808 ≤ x) (h1 : x < 9223372036854775808) : wrap64 x = x := by unfold wrap64; omega
/-- Not by rfl: so simp leaves a proof, and the kernel need not compare the two sides by running them. -/
theorem bs {α β : Type} (a : α) (f : α → Option β) : (some a).bind f = f a := by
  have h : ∀ o : Option α, o = some a → o.bind f = f a := by
    rintro _ rfl
    rfl
  exact h _ rfl
/-- A tone of the gamut. -/
def vld (s : Int) (b : Bool) : Bool := decide (0 ≤ s) && (decide (s ≤ 20) && (!b || (Int.tmod s 7 == 2)))
theorem vld_bd {s : Int} {b : Bool} (h : vld s b = true) : 0 ≤ s ∧ s ≤ 20 := by
  simp only [vld, Bool.and_eq_true, decide_eq_true_eq] at h
  exact ⟨h.1, h.2.1⟩
theorem spec_valid (s : Int) (b : Bool) : spec_ToneValid.f s b = some (vld s b) := by
  unfold spec_ToneValid.f spec_l6In.f spec_l1Letter.f vld
  by_cases h0 : 0 ≤ s
  · rw [if_pos h0, decide_eq_true h0]
    by_cases h1 : s ≤ 20
    · cases b <;> simp [h1]
    · simp [h1]
  · rw [if_neg h0, decide_eq_false h0]
    simp
theorem impl_valid (s : Int) (b : Bool) : impl_Tone_valid.f s b = some (vld s b) := by
  unfold impl_Tone_valid.f vld
  by_cases h0 : 0 ≤ s
  · rw [if_pos h0, decide_eq_true h0]
    by_cases h1 : s ≤ 20
    · cases b <;> simp [h1]
    · simp [h1]
  · rw [if_neg h0, decide_eq_false h0]
    simp
abbrev St := S34
abbrev Lt := S41
def cv (l : List Lt) : List St := l.map fun x => ⟨x.f0, x.f1⟩
theorem cv_len (l : List Lt) : (cv l).length = l.length := by simp [cv]
theorem w_succ {n : Nat} (h : n < 4611686018427387904) : wrap64 ((n : Int) + 1) = ((n + 1 : Nat) : Int) := by
  rw [w64 (by omega) (by omega)]; omega
theorem drop_at {α : Type} (l : List α) (n : Nat) (z : α) (h : n < l.length) : l.drop n = l.getD n z :: l.drop (n + 1) := by
  rw [List.drop_eq_getElem_cons h, List.getD_eq_getElem?_getD, List.getElem?_eq_getElem h]; rfl
theorem rd_s (l : List St) (n : Nat) : rd_T34 l (n : Int) = l.getD n z34 := by
  unfold rd_T34; rw [Int.toNat_natCast]
theorem rd_l (l : List Lt) (n : Nat) : rd_T41 l (n : Int) = l.getD n z41 := by
  unfold rd_T41; rw [Int.toNat_natCast]
theorem round {k d : Nat} (h : d < k) : ∃ m, k = m + 1 := ⟨k - 1, by omega⟩
theorem toTones_loop (l : List Lt) (hl : l.length ≤ 1048576) (d : Nat) : ∀ (k n : Nat) (x : List St), n + d = l.length → d < k → x.length = l.length →
    laws_toToneS.l0 k l x (n : Int) = some (x.take n ++ (cv l).drop n) := by
  induction d with
  | zero =>
    intro k n x hn hk hx
    obtain ⟨k, rfl⟩ := round hk
    simp only [laws_toToneS.l0]
    rw [if_neg (by omega), List.take_of_length_le (by omega), List.drop_eq_nil_of_le (by rw [cv_len]; omega), List.append_nil]
  | succ d ih =>
    intro k n x hn hk hx
    obtain ⟨k, rfl⟩ := round hk
    simp only [laws_toToneS.l0]
    rw [if_pos (by omega), if_pos (by omega)]
    unfold laws_toTone.f
    simp only [Option.bind_some]
    rw [if_pos (by omega), w_succ (by omega), Int.toNat_natCast, rd_l]
    rw [ih k (n + 1) _ (by omega) (by omega) (by simp [hx])]
    have h1 : n < (cv l).length := by rw [cv_len]; omega
    rw [drop_at (cv l) n ⟨0, false⟩ h1]
    congr 1
    have h2 : (cv l).getD n ⟨0, false⟩ = ⟨(l.getD n z41).f0, (l.getD n z41).f1⟩ := by
      have h3 : n < l.length := by omega
      simp [cv, List.getD_eq_getElem?_getD, List.getElem?_eq_getElem h3]
    rw [h2, List.take_add_one, List.take_set_of_le (Nat.le_refl _), List.getElem?_set_self (by omega)]
    simp
theorem toTones (l : List Lt) (hl : l.length ≤ 1048576) (k : Nat) (hk : l.length < k) : laws_toToneS.f k l = some (cv l) := by
  unfold laws_toToneS.f
  rw [if_pos (by omega), if_pos (by omega), Int.toNat_natCast]
  have := toTones_loop l hl l.length k 0 (List.replicate l.length z34) (by omega) hk (by simp)
  simpa using this
/-- A list is a melody. -/
def mv (l : List St) : Bool := l.all (fun t => vld t.f0 t.f1) && decide (l.length ≤ 24)
theorem specMelody_loop (l : List St) (hl : l.length ≤ 1048576) (d : Nat) : ∀ (k n : Nat), n + d = l.length → d < k →
    spec_MelodyValid.l0 k l (n : Int) = some ((l.drop n).all (fun t => vld t.f0 t.f1) && decide (l.length ≤ 24)) := by
  induction d with
  | zero =>
    intro k n hn hk
    obtain ⟨k, rfl⟩ := round hk
    simp only [spec_MelodyValid.l0]
    rw [if_neg (by omega), List.drop_eq_nil_of_le (by omega)]
    simp
    omega
  | succ d ih =>
    intro k n hn hk
    obtain ⟨k, rfl⟩ := round hk
    simp only [spec_MelodyValid.l0]
    rw [if_pos (by omega), if_pos (by omega), spec_valid, rd_s, w_succ (by omega), ih k (n + 1) (by omega) (by omega), drop_at l n z34 (by omega), List.all_cons]
    cases vld (l.getD n z34).f0 (l.getD n z34).f1 <;> simp
theorem specMelody (l : List St) (hl : l.length ≤ 1048576) (k : Nat) (hk : l.length < k) : spec_MelodyValid.f k l = some (mv l) := by
  unfold spec_MelodyValid.f mv
  have := specMelody_loop l hl l.length k 0 (by omega) hk
  simpa using this
theorem implMelody_loop (l : List St) (hl : l.length ≤ 1048576) (d : Nat) : ∀ (k n : Nat), n + d = l.length → d < k →
    impl_MelodyValid.l0 k l (l.length : Int) (n : Int) = some ((l.drop n).all (fun t => vld t.f0 t.f1)) := by
  induction d with
  | zero =>
    intro k n hn hk
    obtain ⟨k, rfl⟩ := round hk
    simp only [impl_MelodyValid.l0]
    rw [if_neg (by omega), List.drop_eq_nil_of_le (by omega)]
    simp
  | succ d ih =>
    intro k n hn hk
    obtain ⟨k, rfl⟩ := round hk
    simp only [impl_MelodyValid.l0]
    rw [if_pos (by omega), if_pos (by omega), if_pos (by omega), impl_valid, rd_s, w_succ (by omega), ih k (n + 1) (by omega) (by omega), drop_at l n z34 (by omega), List.all_cons]
    cases vld (l.getD n z34).f0 (l.getD n z34).f1 <;> simp
theorem implMelody (l : List St) (hl : l.length ≤ 1048576) (k : Nat) (hk : l.length < k) : impl_MelodyValid.f k l = some (mv l) := by
  unfold impl_MelodyValid.f mv
  by_cases h : (l.length : Int) > 24
  · rw [if_pos h, decide_eq_false (by omega)]; simp
  · rw [if_neg h, decide_eq_true (by omega)]
    have := implMelody_loop l hl l.length k 0 (by omega) hk
    simpa using this
theorem eqTone_self (s : Int) (b : Bool) : laws_eqTone.f s b s b = some true := by
  unfold laws_eqTone.f; simp
theorem eqTones_loop (l : List St) (hl : l.length ≤ 1048576) (d : Nat) : ∀ (k n : Nat), n + d = l.length → d < k → laws_eqToneS.l0 k l l (n : Int) = some true := by
  induction d with
  | zero =>
    intro k n hn hk
    obtain ⟨k, rfl⟩ := round hk
    simp only [laws_eqToneS.l0]
    rw [if_neg (by omega)]
  | succ d ih =>
    intro k n hn hk
    obtain ⟨k, rfl⟩ := round hk
    simp only [laws_eqToneS.l0]
    rw [if_pos (by omega), if_pos (by omega), if_pos (by omega), eqTone_self, w_succ (by omega), ih k (n + 1) (by omega) (by omega)]
    simp
theorem eqTones (l : List St) (hl : l.length ≤ 1048576) (k : Nat) (hk : l.length < k) : laws_eqToneS.f k l l = some true := by
  unfold laws_eqToneS.f
  rw [if_pos rfl]
  exact eqTones_loop l hl l.length k 0 (by omega) hk
theorem szTones (l : List Lt) (c : Int) (hc : 0 ≤ c ∧ c ≤ 1048576) (hm : l.length ≤ 9223372036854775807) : laws_szToneS.f l c = some (if c < l.length then -1 else c - l.length) := by
  unfold laws_szToneS.f
  rw [w64 (by omega) (by omega)]
  by_cases h : c < l.length
  · rw [if_pos (by omega), if_pos h]
  · rw [if_neg (by omega), if_neg h]
def mkd : List St → Int → List St
  | [], _ => []
  | _ :: xs, c => ⟨c, (Int.tmod (c + 1) 3 == 0)⟩ :: mkd xs (c + 2)
theorem mkd_len : ∀ (l : List St) (c : Int), (mkd l c).length = l.length
  | [], _ => rfl
  | _ :: xs, c => by simp [mkd, mkd_len xs (c + 2)]
theorem mkd_eq : ∀ (l m : List St) (c : Int), l.length = m.length → mkd l c = mkd m c
  | [], [], _, _ => rfl
  | [], _ :: _, _, h => by simp at h
  | _ :: _, [], _, h => by simp at h
  | _ :: xs, _ :: ys, c, h => by simp only [mkd]; rw [mkd_eq xs ys _ (by simpa using h)]
theorem mark_loop (d : Nat) : ∀ (l : List St) (k n : Nat) (c : Int), l.length ≤ 1048576 → n + d = l.length → d < k → 0 ≤ c → c + 2 * d ≤ 4000000000 →
    laws_markToneS.l0 k l c (n : Int) = some (c + 2 * d, l.take n ++ mkd (l.drop n) c) := by
  induction d with
  | zero =>
    intro l k n c hl hn hk h0 hc
    obtain ⟨k, rfl⟩ := round hk
    simp only [laws_markToneS.l0]
    rw [if_neg (by omega), List.take_of_length_le (by omega), List.drop_eq_nil_of_le (by omega)]
    simp [mkd]
  | succ d ih =>
    intro l k n c hl hn hk h0 hc
    obtain ⟨k, rfl⟩ := round hk
    simp only [laws_markToneS.l0]
    rw [if_pos (by omega), if_pos (by omega)]
    simp only [Option.bind_some, Int.toNat_natCast]
    rw [w64 (x := c + 1) (by omega) (by omega), w64 (x := c + 1 + 1) (by omega) (by omega), w_succ (by omega), show c + 1 + 1 = c + 2 by omega]
    rw [rd_s, rd_s]
    have h1 : n < l.length := by omega
    rw [ih _ k (n + 1) (c + 2) (by simpa using hl) (by simp; omega) (by omega) (by omega) (by omega)]
    have e0 : (l.set n ⟨c, (l.getD n z34).f1⟩).getD n z34 = ⟨c, (l.getD n z34).f1⟩ := by
      rw [List.getD_eq_getElem?_getD, List.getElem?_set_self h1]; rfl
    rw [e0, List.set_set]
    have e1 : (l.set n ⟨c, (Int.tmod (c + 1) 3 == 0)⟩).drop (n + 1) = l.drop (n + 1) := List.drop_set_of_lt (by omega)
    have e2 : (l.set n ⟨c, (Int.tmod (c + 1) 3 == 0)⟩ : List St).take (n + 1) = l.take n ++ [⟨c, (Int.tmod (c + 1) 3 == 0)⟩] := by
      rw [List.take_add_one, List.take_set_of_le (Nat.le_refl _), List.getElem?_set_self h1]; rfl
    rw [e1, e2, drop_at l n z34 h1]
    simp only [mkd, List.append_assoc, List.cons_append, List.nil_append]
    congr 2
    omega
theorem marked (l : List St) (hl : l.length ≤ 1048576) (k : Nat) (hk : l.length < k) (c : Int) (hc : 0 ≤ c ∧ c ≤ 1000000000) : laws_markToneS.f k l c = some (c + 2 * l.length, mkd l c) := by
  unfold laws_markToneS.f
  have := mark_loop l.length l k 0 c hl (by omega) hk hc.1 (by omega)
  simpa using this
theorem held_loop (d : Nat) : ∀ (l : List St) (k n : Nat) (c : Int), l.length ≤ 1048576 → n + d = l.length → d < k → 0 ≤ c → c + 2 * d ≤ 4000000000 → l.drop n = mkd (l.drop n) c →
    laws_heldToneS.l0 k l c (n : Int) = some (c + 2 * d) := by
  induction d with
  | zero =>
    intro l k n c hl hn hk h0 hc _
    obtain ⟨k, rfl⟩ := round hk
    simp only [laws_heldToneS.l0]
    rw [if_neg (by omega)]
    simp
  | succ d ih =>
    intro l k n c hl hn hk h0 hc hm
    obtain ⟨k, rfl⟩ := round hk
    have h1 : n < l.length := by omega
    rw [drop_at l n z34 h1] at hm
    simp only [mkd, List.cons.injEq] at hm
    obtain ⟨hm1, hm2⟩ := hm
    simp only [laws_heldToneS.l0]
    rw [if_pos (by omega), if_pos (by omega), rd_s, hm1]
    rw [w64 (x := c + 1) (by omega) (by omega), w64 (x := c + 1 + 1) (by omega) (by omega), w_succ (by omega), show c + 1 + 1 = c + 2 by omega]
    rw [if_pos rfl, if_neg (by simp), ih l k (n + 1) (c + 2) hl (by omega) (by omega) (by omega) (by omega) hm2]
    congr 1
    omega
theorem mkd_mkd : ∀ (l : List St) (c : Int), mkd (mkd l c) c = mkd l c := fun l c => mkd_eq _ _ c (mkd_len l c)
theorem held (l : List St) (hl : l.length ≤ 1048576) (k : Nat) (hk : l.length < k) (c : Int) (hc : 0 ≤ c ∧ c ≤ 1000000000) : laws_heldToneS.f k (mkd l c) c = some (c + 2 * l.length) := by
  unfold laws_heldToneS.f
  have := held_loop l.length (mkd l c) k 0 c (by rw [mkd_len]; exact hl) (by rw [mkd_len]; omega) hk hc.1 (by omega) (by simp [mkd_mkd])
  simpa using this
def joined (a b : List St) : List St × Bool := if mv a = true ∧ mv b = true ∧ a.length + b.length ≤ 24 then (a ++ b, true) else ([], false)
theorem mv_le {a : List St} (h : mv a = true) : a.length ≤ 24 := by
  simp only [mv, Bool.and_eq_true, decide_eq_true_eq] at h
  exact h.2
theorem mv_app {a b : List St} (ha : mv a = true) (hb : mv b = true) : mv (a ++ b) = decide (a.length + b.length ≤ 24) := by
  simp only [mv, Bool.and_eq_true, decide_eq_true_eq] at ha hb
  simp [mv, List.all_append, ha.1, hb.1]
theorem implJoin (a b : List St) (ha : a.length ≤ 1048576) (hb : b.length ≤ 1048576) (k : Nat) (hk : a.length + b.length < k) : impl_MelodyJoin.f k a b = some (joined a b) := by
  unfold impl_MelodyJoin.f joined
  rw [implMelody a ha k (by omega)]
  simp only [Option.bind_some]
  by_cases h : mv a = true
  · rw [if_pos h, implMelody b hb k (by omega)]
    simp only [Option.bind_some]
    by_cases h2 : mv b = true
    · rw [if_pos h2, w64 (by omega) (by omega)]
      by_cases h3 : a.length + b.length ≤ 24
      · rw [if_neg (by omega), if_pos ⟨h, h2, h3⟩]
        unfold impl_copiedTones.f
        rw [if_pos (by omega)]
        simp only [Option.bind_some]
        rw [if_pos (by omega)]
      · rw [if_pos (by omega), if_neg (fun x => h3 x.2.2)]
    · rw [if_neg h2, if_neg (fun x => h2 x.2.1)]
  · rw [if_neg h, if_neg (fun x => h x.1)]
theorem specJoin (a b : List St) (ha : a.length ≤ 1048576) (hb : b.length ≤ 1048576) (k : Nat) (hk : a.length + b.length < k) : spec_MelodyJoin.f k a b = some (joined a b) := by
  unfold spec_MelodyJoin.f joined
  try simp only [Option.bind_some]
  rw [if_pos (by simp; omega)]
  try simp only [Option.bind_some]
  rw [if_pos (by simp; omega)]
  try simp only [Option.bind_some]
  simp only [List.nil_append]
  rw [specMelody a ha k (by omega)]
  simp only [Option.bind_some]
  by_cases h : mv a = true
  · rw [if_pos h, specMelody b hb k (by omega)]
    simp only [Option.bind_some]
    by_cases h2 : mv b = true
    · have := mv_le h
      have := mv_le h2
      rw [if_pos h2, specMelody (a ++ b) (by rw [List.length_append]; omega) k (by rw [List.length_append]; omega), mv_app h h2]
      simp only [Option.bind_some]
      by_cases h3 : a.length + b.length ≤ 24
      · rw [if_pos (by simpa using h3), if_pos ⟨h, h2, h3⟩]
      · rw [if_neg (by simpa using h3), if_neg (fun x => h3 x.2.2)]
    · rw [if_neg h2, if_neg (fun x => h2 x.2.1)]
  · rw [if_neg h, if_neg (fun x => h x.1)]
theorem joined_len (a b : List St) : (joined a b).1.length ≤ 24 := by
  unfold joined
  split
  · next h => simpa using h.2.2
  · simp
theorem FnExactMelodyJoin (l l2 : List Lt) (hm : l.length ≤ 9223372036854775807) (_ : ∀ x ∈ l, (Lit.int .i64 x.f0).wf = true ∧ True) (hm2 : l2.length ≤ 9223372036854775807) (_ : ∀ x ∈ l2, (Lit.int .i64 x.f0).wf = true ∧ True) : ∃ k, laws_FnExactMelodyJoin.f k l l2 = some true := by
  refine ⟨l.length + l2.length + 40, ?_⟩
  unfold laws_FnExactMelodyJoin.f
  rw [szTones l 1048576 (by omega) hm]
  simp only [Option.bind_some]
  by_cases h : (1048576 : Int) < l.length
  · rw [if_pos h, if_pos (by omega)]
  rw [if_neg h, if_neg (by omega)]
  rw [szTones l2 _ (by omega) hm2]
  simp only [Option.bind_some]
  by_cases h2 : 1048576 - (l.length : Int) < l2.length
  · rw [if_pos h2, if_pos (by omega)]
  rw [if_neg h2, if_neg (by omega)]
  have hl : l.length ≤ 1048576 := by omega
  have hl2 : l2.length ≤ 1048576 := by omega
  have hc := cv_len l
  have hc2 := cv_len l2
  obtain ⟨⟨r, ok⟩, hr⟩ : ∃ p : List St × Bool, p = joined (cv l) (cv l2) := ⟨_, rfl⟩
  have hb : r.length ≤ 24 := by have := joined_len (cv l) (cv l2); rw [← hr] at this; exact this
  have hS : ∀ k, (cv l).length + (cv l2).length < k → spec_MelodyJoin.f k (cv l) (cv l2) = some (r, ok) := fun k hk => by rw [hr]; exact specJoin _ _ (by omega) (by omega) k hk
  have hI : ∀ k, (cv l).length + (cv l2).length < k → impl_MelodyJoin.f k (cv l) (cv l2) = some (r, ok) := fun k hk => by rw [hr]; exact implJoin _ _ (by omega) (by omega) k hk
  clear hr
  rw [toTones l hl _ (by omega), toTones l2 hl2 _ (by omega)]
  simp only [Option.bind_some]
  rw [hS _ (by omega), hI _ (by omega)]
  simp only [Option.bind_some]
  rw [eqTones r (by omega) _ (by omega)]
  simp only [Option.bind_some, if_true]
  rw [show (ok != ok) = false by simp]
  simp only [laws_FnExactMelodyJoin.j0]
  rw [if_neg (by simp), toTones l hl _ (by omega)]
  simp only [Option.bind_some]
  rw [eqTones (cv l) (by omega) _ (by omega)]
  simp only [Option.bind_some, if_true]
  rw [toTones l2 hl2 _ (by omega)]
  simp only [Option.bind_some]
  rw [eqTones (cv l2) (by omega) _ (by omega)]
  simp only [Option.bind_some, if_true]
  rw [marked (cv l) (by omega) _ (by omega) 1 (by omega)]
  simp only [Option.bind_some]
  rw [marked (cv l2) (by omega) _ (by omega) _ (by omega)]
  simp only [Option.bind_some]
  rw [if_neg (by omega), eqTones r (by omega) _ (by omega)]
  simp only [Option.bind_some, if_true]
  rw [show (ok != ok) = false by simp]
  simp only [laws_FnExactMelodyJoin.j1]
  rw [if_neg (by simp), marked r (by omega) _ (by omega) 1 (by omega)]
  simp only [Option.bind_some]
  rw [held r (by omega) _ (by omega) 1 (by omega)]
  simp only [Option.bind_some]
  rw [if_neg (by omega), if_pos trivial, toTones l hl _ (by omega)]
  simp only [Option.bind_some]
  rw [toTones l2 hl2 _ (by omega)]
  simp only [Option.bind_some]
  rw [hI _ (by omega)]
  simp only [Option.bind_some]
  rw [eqTones r (by omega) _ (by omega)]
  simp only [Option.bind_some, if_true]
  rw [show (ok != ok) = false by simp]
  simp only [laws_FnExactMelodyJoin.j2]
  rw [if_neg (by simp), held r (by omega) _ (by omega) 1 (by omega)]
  simp only [Option.bind_some]
  rw [if_neg (by omega), if_pos trivial]
end Go.Proofs.Ytiddkhhcophbfaa.ZT
