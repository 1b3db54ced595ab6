/- The plain laws: what the Lean functions of the walks come to. No program and no memory in sight. No condition beyond what each theorem says. -/
import Derived.Test.YtnbjfkjpaaoooaaXAx1
import Derived.Test.YtnbjfkjpaaoooaaXAx2
import Derived.Test.YtnbjfkjpaaoooaaXAx3
import Derived.Test.YtnbjfkjpaaoooaaXAx4
namespace Go.Proofs.Ytnbjfkjpaaoooaa.ZA
open Go.RowKit Go.Proofs.Ytnbjfkjpaaoooaa.XA Go.Proofs.YtnbjfkjpaaoooaaW.PrintWords Go.Proofs.YtnbjfkjpaaoooaaW.PrintLast
set_option linter.unusedVariables false
set_option linter.unusedSimpArgs false
theorem w64 {x : Int} (h0 : -9223372036854775808 ≤ x) (h1 : x < 9223372036854775808) : wrap64 x = x := by unfold wrap64; omega
/-- Not by rfl: so simp leaves a proof, and the kernel need not compare the two sides by running them. -/
theorem bs {α β : Type} (a : α) (f : α → Option β) : (some a).bind f = f a := by
  have h : ∀ o : Option α, o = some a → o.bind f = f a := by
    rintro _ rfl
    rfl
  exact h _ rfl
/-- A tone of the gamut. -/
def vld (s : Int) (b : Bool) : Bool := decide (0 ≤ s) && (decide (s ≤ 20) && (!b || (Int.tmod s 7 == 2)))
theorem vld_bd {s : Int} {b : Bool} (h : vld s b = true) : 0 ≤ s ∧ s ≤ 20 := by
  simp only [vld, Bool.and_eq_true, decide_eq_true_eq] at h
  exact ⟨h.1, h.2.1⟩
theorem spec_valid (s : Int) (b : Bool) : spec_ToneValid.f s b = some (vld s b) := by
  unfold spec_ToneValid.f spec_l6In.f spec_l1Letter.f vld
  by_cases h0 : 0 ≤ s
  · rw [if_pos h0, decide_eq_true h0]
    by_cases h1 : s ≤ 20
    · cases b <;> simp [h1]
    · simp [h1]
  · rw [if_neg h0, decide_eq_false h0]
    simp
theorem impl_valid (s : Int) (b : Bool) : impl_Tone_valid.f s b = some (vld s b) := by
  unfold impl_Tone_valid.f vld
  by_cases h0 : 0 ≤ s
  · rw [if_pos h0, decide_eq_true h0]
    by_cases h1 : s ≤ 20
    · cases b <;> simp [h1]
    · simp [h1]
  · rw [if_neg h0, decide_eq_false h0]
    simp
abbrev St := S38
abbrev Lt := S40
def cv (l : List Lt) : List St := l.map fun x => ⟨x.f0, x.f1⟩
theorem cv_len (l : List Lt) : (cv l).length = l.length := by simp [cv]
theorem w_succ {n : Nat} (h : n < 4611686018427387904) : wrap64 ((n : Int) + 1) = ((n + 1 : Nat) : Int) := by
  rw [w64 (by omega) (by omega)]; omega
theorem drop_at {α : Type} (l : List α) (n : Nat) (z : α) (h : n < l.length) : l.drop n = l.getD n z :: l.drop (n + 1) := by
  rw [List.drop_eq_getElem_cons h, List.getD_eq_getElem?_getD, List.getElem?_eq_getElem h]; rfl
theorem rd_s (l : List St) (n : Nat) : rd_T38 l (n : Int) = l.getD n z38 := by
  unfold rd_T38; rw [Int.toNat_natCast]
theorem rd_l (l : List Lt) (n : Nat) : rd_T40 l (n : Int) = l.getD n z40 := by
  unfold rd_T40; rw [Int.toNat_natCast]
theorem round {k d : Nat} (h : d < k) : ∃ m, k = m + 1 := ⟨k - 1, by omega⟩
theorem toTones_loop (l : List Lt) (hl : l.length ≤ 1048576) (d : Nat) : ∀ (k n : Nat) (x : List St), n + d = l.length → d < k → x.length = l.length →
    laws_toToneS.l0 k l x (n : Int) = some (x.take n ++ (cv l).drop n) := by
  induction d with
  | zero =>
    intro k n x hn hk hx
    obtain ⟨k, rfl⟩ := round hk
    simp only [laws_toToneS.l0]
    rw [if_neg (by omega), List.take_of_length_le (by omega), List.drop_eq_nil_of_le (by rw [cv_len]; omega), List.append_nil]
  | succ d ih =>
    intro k n x hn hk hx
    obtain ⟨k, rfl⟩ := round hk
    simp only [laws_toToneS.l0]
    rw [if_pos (by omega), if_pos (by omega)]
    unfold laws_toTone.f
    simp only [Option.bind_some]
    rw [if_pos (by omega), w_succ (by omega), Int.toNat_natCast, rd_l]
    rw [ih k (n + 1) _ (by omega) (by omega) (by simp [hx])]
    have h1 : n < (cv l).length := by rw [cv_len]; omega
    rw [drop_at (cv l) n ⟨0, false⟩ h1]
    congr 1
    have h2 : (cv l).getD n ⟨0, false⟩ = ⟨(l.getD n z40).f0, (l.getD n z40).f1⟩ := by
      have h3 : n < l.length := by omega
      simp [cv, List.getD_eq_getElem?_getD, List.getElem?_eq_getElem h3]
    rw [h2, List.take_add_one, List.take_set_of_le (Nat.le_refl _), List.getElem?_set_self (by omega)]
    simp
theorem toTones (l : List Lt) (hl : l.length ≤ 1048576) (k : Nat) (hk : l.length < k) : laws_toToneS.f k l = some (cv l) := by
  unfold laws_toToneS.f
  rw [if_pos (by omega), if_pos (by omega), Int.toNat_natCast]
  have := toTones_loop l hl l.length k 0 (List.replicate l.length z38) (by omega) hk (by simp)
  simpa using this
/-- A list is a melody. -/
def mv (l : List St) : Bool := l.all (fun t => vld t.f0 t.f1) && decide (l.length ≤ 24)
theorem specMelody_loop (l : List St) (hl : l.length ≤ 1048576) (d : Nat) : ∀ (k n : Nat), n + d = l.length → d < k →
    spec_MelodyValid.l0 k l (n : Int) = some ((l.drop n).all (fun t => vld t.f0 t.f1) && decide (l.length ≤ 24)) := by
  induction d with
  | zero =>
    intro k n hn hk
    obtain ⟨k, rfl⟩ := round hk
    simp only [spec_MelodyValid.l0]
    rw [if_neg (by omega), List.drop_eq_nil_of_le (by omega)]
    simp
    omega
  | succ d ih =>
    intro k n hn hk
    obtain ⟨k, rfl⟩ := round hk
    simp only [spec_MelodyValid.l0]
    rw [if_pos (by omega), if_pos (by omega), spec_valid, rd_s, w_succ (by omega), ih k (n + 1) (by omega) (by omega), drop_at l n z38 (by omega), List.all_cons]
    cases vld (l.getD n z38).f0 (l.getD n z38).f1 <;> simp
theorem specMelody (l : List St) (hl : l.length ≤ 1048576) (k : Nat) (hk : l.length < k) : spec_MelodyValid.f k l = some (mv l) := by
  unfold spec_MelodyValid.f mv
  have := specMelody_loop l hl l.length k 0 (by omega) hk
  simpa using this
theorem implMelody_loop (l : List St) (hl : l.length ≤ 1048576) (d : Nat) : ∀ (k n : Nat), n + d = l.length → d < k →
    impl_MelodyValid.l0 k l (l.length : Int) (n : Int) = some ((l.drop n).all (fun t => vld t.f0 t.f1)) := by
  induction d with
  | zero =>
    intro k n hn hk
    obtain ⟨k, rfl⟩ := round hk
    simp only [impl_MelodyValid.l0]
    rw [if_neg (by omega), List.drop_eq_nil_of_le (by omega)]
    simp
  | succ d ih =>
    intro k n hn hk
    obtain ⟨k, rfl⟩ := round hk
    simp only [impl_MelodyValid.l0]
    rw [if_pos (by omega), if_pos (by omega), if_pos (by omega), impl_valid, rd_s, w_succ (by omega), ih k (n + 1) (by omega) (by omega), drop_at l n z38 (by omega), List.all_cons]
    cases vld (l.getD n z38).f0 (l.getD n z38).f1 <;> simp
theorem implMelody (l : List St) (hl : l.length ≤ 1048576) (k : Nat) (hk : l.length < k) : impl_MelodyValid.f k l = some (mv l) := by
  unfold impl_MelodyValid.f mv
  by_cases h : (l.length : Int) > 24
  · rw [if_pos h, decide_eq_false (by omega)]; simp
  · rw [if_neg h, decide_eq_true (by omega)]
    have := implMelody_loop l hl l.length k 0 (by omega) hk
    simpa using this
theorem eqTone_self (s : Int) (b : Bool) : laws_eqTone.f s b s b = some true := by
  unfold laws_eqTone.f; simp
theorem eqTones_loop (l : List St) (hl : l.length ≤ 1048576) (d : Nat) : ∀ (k n : Nat), n + d = l.length → d < k → laws_eqToneS.l0 k l l (n : Int) = some true := by
  induction d with
  | zero =>
    intro k n hn hk
    obtain ⟨k, rfl⟩ := round hk
    simp only [laws_eqToneS.l0]
    rw [if_neg (by omega)]
  | succ d ih =>
    intro k n hn hk
    obtain ⟨k, rfl⟩ := round hk
    simp only [laws_eqToneS.l0]
    rw [if_pos (by omega), if_pos (by omega), if_pos (by omega), eqTone_self, w_succ (by omega), ih k (n + 1) (by omega) (by omega)]
    simp
theorem eqTones (l : List St) (hl : l.length ≤ 1048576) (k : Nat) (hk : l.length < k) : laws_eqToneS.f k l l = some true := by
  unfold laws_eqToneS.f
  rw [if_pos rfl]
  exact eqTones_loop l hl l.length k 0 (by omega) hk
theorem szTones (l : List Lt) (c : Int) (hc : 0 ≤ c ∧ c ≤ 1048576) (hm : l.length ≤ 9223372036854775807) : laws_szToneS.f l c = some (if c < l.length then -1 else c - l.length) := by
  unfold laws_szToneS.f
  rw [w64 (by omega) (by omega)]
  by_cases h : c < l.length
  · rw [if_pos (by omega), if_pos h]
  · rw [if_neg (by omega), if_neg h]
abbrev Gt := S46
abbrev Gl := S48
def cvG (l : List Gl) : List Gt := l.map fun x => ⟨x.f0, x.f1⟩
theorem cvG_len (l : List Gl) : (cvG l).length = l.length := by simp [cvG]
theorem rd_g (l : List Gt) (n : Nat) : rd_T46 l (n : Int) = l.getD n z46 := by
  unfold rd_T46; rw [Int.toNat_natCast]
theorem rd_gl (l : List Gl) (n : Nat) : rd_T48 l (n : Int) = l.getD n z48 := by
  unfold rd_T48; rw [Int.toNat_natCast]
theorem toG_loop (l : List Gl) (hl : l.length ≤ 1048576) (d : Nat) : ∀ (k n : Nat) (x : List Gt), n + d = l.length → d < k → x.length = l.length →
    laws_toMelismaS.l0 k l x (n : Int) = some (x.take n ++ (cvG l).drop n) := by
  induction d with
  | zero =>
    intro k n x hn hk hx
    obtain ⟨k, rfl⟩ := round hk
    simp only [laws_toMelismaS.l0]
    rw [if_neg (by omega), List.take_of_length_le (by omega), List.drop_eq_nil_of_le (by rw [cvG_len]; omega), List.append_nil]
  | succ d ih =>
    intro k n x hn hk hx
    obtain ⟨k, rfl⟩ := round hk
    simp only [laws_toMelismaS.l0]
    rw [if_pos (by omega), if_pos (by omega)]
    unfold laws_toMelisma.f
    simp only [Option.bind_some]
    rw [if_pos (by omega), w_succ (by omega), Int.toNat_natCast, rd_gl]
    rw [ih k (n + 1) _ (by omega) (by omega) (by simp [hx])]
    have h1 : n < (cvG l).length := by rw [cvG_len]; omega
    rw [drop_at (cvG l) n ⟨0, false⟩ h1]
    congr 1
    have h2 : (cvG l).getD n ⟨0, false⟩ = ⟨(l.getD n z48).f0, (l.getD n z48).f1⟩ := by
      have h3 : n < l.length := by omega
      simp [cvG, List.getD_eq_getElem?_getD, List.getElem?_eq_getElem h3]
    rw [h2, List.take_add_one, List.take_set_of_le (Nat.le_refl _), List.getElem?_set_self (by omega)]
    simp
theorem toG (l : List Gl) (hl : l.length ≤ 1048576) (k : Nat) (hk : l.length < k) : laws_toMelismaS.f k l = some (cvG l) := by
  unfold laws_toMelismaS.f
  rw [if_pos (by omega), if_pos (by omega), Int.toNat_natCast]
  have := toG_loop l hl l.length k 0 (List.replicate l.length z46) (by omega) hk (by simp)
  simpa using this
theorem eqG_self (s : Int) (b : Bool) : laws_eqMelisma.f s b s b = some true := by
  unfold laws_eqMelisma.f; simp
theorem eqG_loop (l : List Gt) (hl : l.length ≤ 1048576) (d : Nat) : ∀ (k n : Nat), n + d = l.length → d < k → laws_eqMelismaS.l0 k l l (n : Int) = some true := by
  induction d with
  | zero =>
    intro k n hn hk
    obtain ⟨k, rfl⟩ := round hk
    simp only [laws_eqMelismaS.l0]
    rw [if_neg (by omega)]
  | succ d ih =>
    intro k n hn hk
    obtain ⟨k, rfl⟩ := round hk
    simp only [laws_eqMelismaS.l0]
    rw [if_pos (by omega), if_pos (by omega), if_pos (by omega), eqG_self, w_succ (by omega), ih k (n + 1) (by omega) (by omega)]
    simp
theorem eqG (l : List Gt) (hl : l.length ≤ 1048576) (k : Nat) (hk : l.length < k) : laws_eqMelismaS.f k l l = some true := by
  unfold laws_eqMelismaS.f
  rw [if_pos rfl]
  exact eqG_loop l hl l.length k 0 (by omega) hk
theorem szG (l : List Gl) (c : Int) (hc : 0 ≤ c ∧ c ≤ 1048576) (hm : l.length ≤ 9223372036854775807) : laws_szMelismaS.f l c = some (if c < l.length then -1 else c - l.length) := by
  unfold laws_szMelismaS.f
  rw [w64 (by omega) (by omega)]
  by_cases h : c < l.length
  · rw [if_pos (by omega), if_pos h]
  · rw [if_neg (by omega), if_neg h]
def gin (x : Gt) : Bool := decide (1 ≤ x.f0) && decide (x.f0 ≤ 4)
def gall (l : List Gt) : Bool := l.all gin
def gsum : List Gt → Int
  | [] => 0
  | x :: l => x.f0 + gsum l
def gok : List Gt → Int → Bool
  | [], rest => decide (rest = 0)
  | x :: l, rest => gin x && (decide (x.f0 ≤ rest) && gok l (rest - x.f0))
theorem gin_bd {x : Gt} (h : gin x = true) : 1 ≤ x.f0 ∧ x.f0 ≤ 4 := by
  simpa [gin] using h
theorem gall_len : ∀ l : List Gt, gall l = true → (l.length : Int) ≤ gsum l
  | [], _ => by simp [gsum]
  | x :: l, h => by
    unfold gall at h
    rw [List.all_cons, Bool.and_eq_true] at h
    have := gall_len l h.2
    have := gin_bd h.1
    simp only [gsum, List.length_cons]
    omega
theorem gok_eq : ∀ (l : List Gt) (rest : Int), gok l rest = (gall l && decide (gsum l = rest))
  | [], rest => by
    show decide (rest = 0) = (true && decide (0 = rest))
    rw [Bool.true_and, decide_eq_decide]; omega
  | x :: l, rest => by
    have ih := gok_eq l (rest - x.f0)
    have e : gall (x :: l) = (gin x && gall l) := List.all_cons ..
    have es : gsum (x :: l) = x.f0 + gsum l := rfl
    show (gin x && (decide (x.f0 ≤ rest) && gok l (rest - x.f0))) = _
    rw [e, es, ih]
    cases hx : gin x with
    | false => rfl
    | true =>
      cases hl : gall l with
      | false => simp
      | true =>
        have a := gall_len l hl
        have b := gin_bd hx
        rw [Bool.true_and, Bool.true_and, Bool.true_and, Bool.true_and, Bool.eq_iff_iff, Bool.and_eq_true, decide_eq_true_eq, decide_eq_true_eq, decide_eq_true_eq]
        omega
theorem g_drop (g : List Gt) (n : Nat) (h : n < g.length) : g.drop n = g.getD n z46 :: g.drop (n + 1) := drop_at g n _ h
theorem gspec_loop (m : List St) (g : List Gt) (hg : g.length ≤ 24) : ∀ (d k n : Nat) (sum : Int), n + d = g.length → d < k → 0 ≤ sum → sum ≤ 4 * n →
    spec_GroupsValid.l0 k m g sum (n : Int) = some (gall (g.drop n) && decide (sum + gsum (g.drop n) = (m.length : Int))) := by
  intro d
  induction d with
  | zero =>
    intro k n sum hn hk h0 h1
    obtain ⟨k, rfl⟩ := round hk
    simp only [spec_GroupsValid.l0]
    rw [if_neg (by omega), List.drop_eq_nil_of_le (by omega)]
    show some (sum == (m.length : Int)) = some (true && decide (sum + 0 = (m.length : Int)))
    rw [Bool.true_and, Int.add_zero]
    rfl
  | succ d ih =>
    intro k n sum hn hk h0 h1
    obtain ⟨k, rfl⟩ := round hk
    simp only [spec_GroupsValid.l0]
    rw [if_pos (by omega), if_pos (by omega), rd_g, g_drop g n (by omega)]
    generalize g.getD n z46 = x
    have e : spec_l6In.f x.f0 1 4 = some (gin x) := by
      unfold spec_l6In.f gin
      by_cases h : x.f0 ≥ 1
      · rw [if_pos h, decide_eq_true (show 1 ≤ x.f0 from h), Bool.true_and]
      · rw [if_neg h, decide_eq_false (show ¬ 1 ≤ x.f0 from h), Bool.false_and]
    have e2 : gall (x :: g.drop (n + 1)) = (gin x && gall (g.drop (n + 1))) := List.all_cons ..
    have es : gsum (x :: g.drop (n + 1)) = x.f0 + gsum (g.drop (n + 1)) := rfl
    rw [e, e2, es]
    simp only [Option.bind_some]
    cases hx : gin x with
    | false => rfl
    | true =>
      have b := gin_bd hx
      rw [if_pos rfl, w64 (x := sum + x.f0) (by omega) (by omega), w_succ (by omega), ih k (n + 1) (sum + x.f0) (by omega) (by omega) (by omega) (by omega), Bool.true_and, Int.add_assoc]
theorem gimpl_loop (g : List Gt) (hg : g.length ≤ 1048576) : ∀ (d k n : Nat) (acc : List S61) (rest : List St), n + d = g.length → d < k → acc.length ≤ n →
    ∃ r, impl_groupsOf.l0 k acc rest g (g.length : Int) (n : Int) = some (r, gok (g.drop n) (rest.length : Int)) := by
  intro d
  induction d with
  | zero =>
    intro k n acc rest hn hk ha
    obtain ⟨k, rfl⟩ := round hk
    simp only [impl_groupsOf.l0]
    rw [if_neg (by omega), List.drop_eq_nil_of_le (by omega)]
    exact ⟨_, rfl⟩
  | succ d ih =>
    intro k n acc rest hn hk ha
    obtain ⟨k, rfl⟩ := round hk
    simp only [impl_groupsOf.l0]
    rw [if_pos (by omega), if_pos (by omega), if_pos (by omega), rd_g, g_drop g n (by omega)]
    generalize g.getD n z46 = x
    simp only [gok]
    by_cases h1 : x.f0 < 1
    · rw [if_pos h1]
      exact ⟨_, by unfold gin; rw [decide_eq_false (show ¬ 1 ≤ x.f0 by omega)]; rfl⟩
    · rw [if_neg h1]
      by_cases h2 : x.f0 > 4
      · rw [if_pos h2]
        exact ⟨_, by unfold gin; rw [decide_eq_false (show ¬ x.f0 ≤ 4 by omega), Bool.and_false]; rfl⟩
      · rw [if_neg h2]
        have hx : gin x = true := by unfold gin; rw [decide_eq_true (show 1 ≤ x.f0 by omega), decide_eq_true (show x.f0 ≤ 4 by omega)]; rfl
        by_cases h3 : x.f0 > (rest.length : Int)
        · rw [if_pos h3]
          exact ⟨_, by rw [hx, decide_eq_false (show ¬ x.f0 ≤ (rest.length : Int) by omega)]; rfl⟩
        · rw [if_neg h3, if_pos (by omega), if_pos (by omega), if_pos (by omega), w_succ (by omega), hx, decide_eq_true (show x.f0 ≤ (rest.length : Int) by omega)]
          obtain ⟨r, hr⟩ := ih k (n + 1) (acc ++ [⟨rest.take x.f0.toNat, x.f1⟩]) (rest.drop x.f0.toNat) (by omega) (by omega) (by simp; omega)
          refine ⟨r, ?_⟩
          rw [hr, List.length_drop, show ((rest.length - x.f0.toNat : Nat) : Int) = (rest.length : Int) - x.f0 by omega]
          rfl
def gv (m : List St) (g : List Gt) : Bool := mv m && gok g (m.length : Int)
theorem specG (m : List St) (g : List Gt) (hm : m.length ≤ 1048576) (k : Nat) (hk : m.length < k) (hk2 : g.length + 2 < k) : spec_GroupsValid.f k m g = some (gv m g) := by
  obtain ⟨k, rfl⟩ : ∃ q, k = q + 1 := ⟨k - 1, by omega⟩
  unfold spec_GroupsValid.f gv
  rw [specMelody m hm _ hk]
  simp only [Option.bind_some]
  cases hmv : mv m with
  | false =>
    simp only [Bool.false_eq_true, if_false, Bool.false_and, spec_GroupsValid.j0, if_true]
  | true =>
    have hlen : m.length ≤ 24 := by
      unfold mv at hmv
      rw [Bool.and_eq_true, decide_eq_true_eq] at hmv
      exact hmv.2
    rw [if_pos rfl, Bool.true_and, gok_eq]
    simp only [spec_GroupsValid.j0]
    by_cases h : (g.length : Int) > 24
    · rw [if_pos (by simpa using h)]
      cases hga : gall g with
      | false => rfl
      | true =>
        have := gall_len g hga
        rw [Bool.true_and, decide_eq_false (by omega)]
    · rw [if_neg (by simpa using h)]
      have := gspec_loop m g (by omega) g.length k 0 0 (by omega) (by omega) (by omega) (by omega)
      rw [List.drop_zero, Int.zero_add] at this
      exact this
theorem implG (m : List St) (g : List Gt) (hm : m.length ≤ 1048576) (hg : g.length ≤ 1048576) (k : Nat) (hk : m.length < k) (hk2 : g.length + 2 < k) : impl_GroupsValid.f k m g = some (gv m g) := by
  unfold impl_GroupsValid.f impl_groupsOf.f gv
  rw [implMelody m hm _ hk]
  simp only [Option.bind_some]
  cases mv m with
  | false => rfl
  | true =>
    rw [if_pos rfl, Bool.true_and]
    obtain ⟨r, hr⟩ := gimpl_loop g hg g.length k 0 [] m (by omega) (by omega) (by simp)
    rw [List.drop_zero, show ((0 : Nat) : Int) = 0 from rfl] at hr
    rw [hr]
    rfl
theorem FnExactGroupsValid (l : List Lt) (g : List Gl) (hm : l.length ≤ 9223372036854775807) (_ : ∀ x ∈ l, (Lit.int .i64 x.f0).wf = true ∧ True) (hg : g.length ≤ 9223372036854775807) (_ : ∀ x ∈ g, (Lit.int .i64 x.f0).wf = true ∧ True) : ∃ k, laws_FnExactGroupsValid.f k l g = some true := by
  refine ⟨l.length + g.length + 3, ?_⟩
  unfold laws_FnExactGroupsValid.f
  rw [szTones l 1048576 (by omega) hm]
  simp only [Option.bind_some]
  by_cases h : (1048576 : Int) < l.length
  · rw [if_pos h, if_pos (by omega)]
  rw [if_neg h, if_neg (by omega), szG g _ (by omega) hg]
  simp only [Option.bind_some]
  by_cases h2 : (1048576 : Int) - l.length < g.length
  · rw [if_pos h2, if_pos (by omega)]
  rw [if_neg h2, if_neg (by omega), toTones l (by omega) _ (by omega), toG g (by omega) _ (by omega)]
  simp only [Option.bind_some]
  have c1 := cv_len l
  have c2 := cvG_len g
  rw [specG (cv l) (cvG g) (by omega) _ (by omega) (by omega), implG (cv l) (cvG g) (by omega) (by omega) _ (by omega) (by omega)]
  simp only [Option.bind_some, bne_self_eq_false, Bool.false_eq_true, if_false]
  rw [eqTones (cv l) (by omega) _ (by omega)]
  simp only [Option.bind_some, if_true]
  rw [eqG (cvG g) (by omega) _ (by omega)]
  simp only [Option.bind_some, if_true]
end Go.Proofs.Ytnbjfkjpaaoooaa.ZA
