/- The plain laws: what the Lean functions of the walks come to. No program and no memory in sight. No condition beyond what each theorem says. -/
import Derived.Test.YtpfgeflnhkpmaaaXAx1
import Derived.Test.YtpfgeflnhkpmaaaXAx2
import Derived.Test.YtpfgeflnhkpmaaaXAx3
import Derived.Test.YtpfgeflnhkpmaaaXAx4
import Derived.Test.YtpfgeflnhkpmaaaXAx5
namespace Go.Proofs.Ytpfgeflnhkpmaaa.ZA
open Go.RowKit Go.Proofs.Ytpfgeflnhkpmaaa.XA Go.Proofs.YtpfgeflnhkpmaaaW.PrintWords Go.Proofs.YtpfgeflnhkpmaaaW.PrintLast
set_option linter.unusedVariables false
set_option linter.unusedSimpArgs false
theorem w64 {x : Int} (h0 : -9223372036854775808 ≤ x) (h1 : x < 9223372036854775808) : wrap64 x = x := by unfold wrap64; omega
/-- Not by rfl: so simp leaves a proof, and the kernel need not compare the two sides by running them. -/
theorem bs {α β : Type} (a : α) (f : α → Option β) : (some a).bind f = f a := by
  have h : ∀ o : Option α, o = some a → o.bind f = f a := by
    rintro _ rfl
    rfl
  exact h _ rfl
abbrev Ft := S34
abbrev Fl := S32
def cvF (x : Fl) : Ft := ⟨x.f0, x.f1⟩
theorem w_succ {n : Nat} (h : n < 4611686018427387904) : wrap64 ((n : Int) + 1) = ((n + 1 : Nat) : Int) := by
  rw [w64 (by omega) (by omega)]; omega
theorem round {k d : Nat} (h : d < k) : ∃ m, k = m + 1 := ⟨k - 1, by omega⟩
theorem rd_n (l : List Int) (n : Nat) : rd l (n : Int) = l.getD n 0 := by
  unfold rd; rw [Int.toNat_natCast]
theorem drop_l {α : Type} (l : List α) (n : Nat) (h : n < l.length) : ∃ c, l[n]? = some c ∧ l.drop n = c :: l.drop (n + 1) :=
  ⟨l[n], List.getElem?_eq_getElem h, List.drop_eq_getElem_cons h⟩
theorem rdI {l : List Int} {n : Nat} {c : Int} (h : l[n]? = some c) : rd l (n : Int) = c := by
  unfold rd; rw [Int.toNat_natCast, List.getD_eq_getElem?_getD, h]; rfl
theorem rdF {l : List Ft} {n : Nat} {c : Ft} (h : l[n]? = some c) : rd_T34 l (n : Int) = c := by
  unfold rd_T34; rw [Int.toNat_natCast, List.getD_eq_getElem?_getD, h]; rfl
theorem rdL {l : List Fl} {n : Nat} {c : Fl} (h : l[n]? = some c) : rd_T32 l (n : Int) = c := by
  unfold rd_T32; rw [Int.toNat_natCast, List.getD_eq_getElem?_getD, h]; rfl
theorem toI_loop (l : List Int) (hl : l.length ≤ 1048576) : ∀ (d k n : Nat), n + d = l.length → d < k → laws_toIntS.l0 k l (l.take n ++ List.replicate d 0) (n : Int) = some l := by
  intro d
  induction d with
  | zero =>
    intro k n hn hk
    obtain ⟨k, rfl⟩ := round hk
    simp only [laws_toIntS.l0]
    rw [if_neg (by omega), List.take_of_length_le (by omega)]
    simp
  | succ d ih =>
    intro k n hn hk
    obtain ⟨k, rfl⟩ := round hk
    obtain ⟨c, hc, _⟩ := drop_l l n (by omega)
    simp only [laws_toIntS.l0]
    rw [if_pos (by omega), if_pos (by omega), if_pos (by simp; omega), rdI hc, w_succ (by omega), Int.toNat_natCast, ← ih k (n + 1) (by omega) (by omega)]
    congr 1
    rw [List.take_add_one, hc, List.set_append_right _ _ (by rw [List.length_take]; omega), List.length_take, show n - min n l.length = 0 by omega]
    simp [List.replicate_succ]
theorem toI (l : List Int) (hl : l.length ≤ 1048576) (k : Nat) (hk : l.length < k) : laws_toIntS.f k l = some l := by
  unfold laws_toIntS.f
  rw [if_pos (by omega), Int.toNat_natCast, if_pos (by omega)]
  exact toI_loop l hl l.length k 0 (by omega) hk
/-- No list in it is too long. -/
def Sm (l : List Fl) : Prop := l.length ≤ 1048576 ∧ ∀ x ∈ l, x.f0.length ≤ 1048576
def SmF (l : List Ft) : Prop := l.length ≤ 1048576 ∧ ∀ x ∈ l, x.f0.length ≤ 1048576
theorem sm_cv {l : List Fl} (h : Sm l) : SmF (l.map cvF) := by
  refine ⟨by simpa using h.1, fun x hx => ?_⟩
  obtain ⟨y, hy, rfl⟩ := List.mem_map.1 hx
  exact h.2 y hy
theorem toF_loop (l : List Fl) (h : Sm l) : ∀ (d k n : Nat), n + d = l.length → d + 1048580 < k → laws_toFormulaS.l0 k l ((l.take n).map cvF ++ List.replicate d z34) (n : Int) = some (l.map cvF) := by
  have hl := h.1
  intro d
  induction d with
  | zero =>
    intro k n hn hk
    obtain ⟨k, rfl⟩ := round hk
    simp only [laws_toFormulaS.l0]
    rw [if_neg (by omega), List.take_of_length_le (by omega)]
    simp
  | succ d ih =>
    intro k n hn hk
    obtain ⟨k, rfl⟩ := round hk
    obtain ⟨c, hc, _⟩ := drop_l l n (by omega)
    have hcl := h.2 c (List.mem_of_getElem? hc)
    simp only [laws_toFormulaS.l0]
    rw [if_pos (by omega), if_pos (by omega), rdL hc]
    unfold laws_toFormula.f
    rw [toI c.f0 hcl k (by omega)]
    simp only [bs]
    rw [if_pos (by simp; omega), w_succ (by omega), Int.toNat_natCast, ← ih k (n + 1) (by omega) (by omega)]
    congr 1
    rw [List.take_add_one, hc, List.set_append_right _ _ (by rw [List.length_map, List.length_take]; omega), List.length_map, List.length_take, show n - min n l.length = 0 by omega]
    simp [List.replicate_succ, cvF]
theorem toF (l : List Fl) (h : Sm l) (k : Nat) (hk : l.length + 1048580 < k) : laws_toFormulaS.f k l = some (l.map cvF) := by
  have := h.1
  unfold laws_toFormulaS.f
  rw [if_pos (by omega), Int.toNat_natCast, if_pos (by omega)]
  exact toF_loop l h l.length k 0 (by omega) (by omega)
theorem sz_loop (l : List Fl) (hl : l.length ≤ 1048576) (hin : ∀ x ∈ l, x.f0.length ≤ 9223372036854775807) : ∀ (d k n : Nat) (v : Int), n + d = l.length → d < k → 0 ≤ v → v ≤ 1048576 →
    ∃ r, laws_szFormulaS.l0 k l v (n : Int) = some r ∧ (0 ≤ r → ∀ x ∈ l.drop n, x.f0.length ≤ 1048576) := by
  intro d
  induction d with
  | zero =>
    intro k n v hn hk h0 h1
    obtain ⟨k, rfl⟩ := round hk
    simp only [laws_szFormulaS.l0]
    rw [if_neg (by omega), List.drop_eq_nil_of_le (by omega)]
    exact ⟨_, rfl, fun _ x hx => by simp at hx⟩
  | succ d ih =>
    intro k n v hn hk h0 h1
    obtain ⟨k, rfl⟩ := round hk
    obtain ⟨c, hc, hd⟩ := drop_l l n (by omega)
    have hcl := hin c (List.mem_of_getElem? hc)
    simp only [laws_szFormulaS.l0]
    rw [if_pos (by omega), if_pos (by omega), rdL hc]
    unfold laws_szFormula.f laws_szIntS.f
    rw [w64 (x := v - (c.f0.length : Int)) (by omega) (by omega)]
    by_cases hneg : v - (c.f0.length : Int) < 0
    · rw [if_pos hneg]
      simp only [bs]
      rw [if_pos (by omega)]
      simp only [bs]
      rw [if_pos (by omega)]
      exact ⟨_, rfl, fun h => by omega⟩
    · rw [if_neg hneg]
      simp only [bs]
      rw [if_neg hneg]
      simp only [bs]
      rw [if_neg hneg, w_succ (by omega)]
      obtain ⟨r, h2, h3⟩ := ih k (n + 1) (v - (c.f0.length : Int)) (by omega) (by omega) (by omega) (by omega)
      refine ⟨r, h2, fun h x hx => ?_⟩
      rw [hd] at hx
      rcases List.mem_cons.1 hx with g | g
      · rw [g]; omega
      · exact h3 h x g
theorem szF (l : List Fl) (hm : l.length ≤ 9223372036854775807) (hin : ∀ x ∈ l, x.f0.length ≤ 9223372036854775807) (k : Nat) (hk : l.length < k) :
    ∃ r, laws_szFormulaS.f k l 1048576 = some r ∧ (0 ≤ r → Sm l) := by
  unfold laws_szFormulaS.f
  rw [w64 (x := 1048576 - (l.length : Int)) (by omega) (by omega)]
  by_cases h : (1048576 : Int) - (l.length : Int) < 0
  · rw [if_pos h]
    exact ⟨_, rfl, fun h => by omega⟩
  · rw [if_neg h]
    obtain ⟨r, h2, h3⟩ := sz_loop l (by omega) hin l.length k 0 (1048576 - (l.length : Int)) (by omega) hk (by omega) (by omega)
    exact ⟨r, h2, fun h => ⟨by omega, fun x hx => h3 h x (by simpa using hx)⟩⟩
theorem eqI_loop (l : List Int) (hl : l.length ≤ 1048576) : ∀ (d k n : Nat), n + d = l.length → d < k → laws_eqIntS.l0 k l l (n : Int) = some true := by
  intro d
  induction d with
  | zero =>
    intro k n hn hk
    obtain ⟨k, rfl⟩ := round hk
    simp only [laws_eqIntS.l0]
    rw [if_neg (by omega)]
  | succ d ih =>
    intro k n hn hk
    obtain ⟨k, rfl⟩ := round hk
    simp only [laws_eqIntS.l0]
    rw [if_pos (by omega), if_pos (by omega), if_pos (by omega), if_pos trivial, w_succ (by omega), ih k (n + 1) (by omega) (by omega)]
theorem eqF_loop (l : List Ft) (h : SmF l) : ∀ (d k n : Nat), n + d = l.length → d + 1048580 < k → laws_eqFormulaS.l0 k l l (n : Int) = some true := by
  have hl := h.1
  intro d
  induction d with
  | zero =>
    intro k n hn hk
    obtain ⟨k, rfl⟩ := round hk
    simp only [laws_eqFormulaS.l0]
    rw [if_neg (by omega)]
  | succ d ih =>
    intro k n hn hk
    obtain ⟨k, rfl⟩ := round hk
    obtain ⟨c, hc, _⟩ := drop_l l n (by omega)
    have hcl := h.2 c (List.mem_of_getElem? hc)
    simp only [laws_eqFormulaS.l0]
    rw [if_pos (by omega), if_pos (by omega), if_pos (by omega), rdF hc]
    unfold laws_eqFormula.f laws_eqIntS.f
    have q := eqI_loop c.f0 hcl c.f0.length k 0 (by omega) (by omega)
    rw [show ((0 : Nat) : Int) = 0 from rfl] at q
    rw [if_pos rfl, q]
    simp only [bs, if_true]
    rw [w_succ (by omega), ih k (n + 1) (by omega) (by omega)]
theorem eqF (l : List Ft) (h : SmF l) (k : Nat) (hk : l.length + 1048580 < k) : laws_eqFormulaS.f k l l = some true := by
  unfold laws_eqFormulaS.f
  rw [if_pos rfl]
  exact eqF_loop l h l.length k 0 (by omega) (by omega)
def inS (x : Int) : Bool := decide (-7 ≤ x) && decide (x ≤ 7)
/-- A formula is within all limits. -/
def okB (f : Ft) : Bool := f.f0.all inS && (decide (1 ≤ f.f0.length) && decide (f.f0.length ≤ 5)) && (decide (1 ≤ f.f1) && decide (f.f1 ≤ 9))
theorem l6In_eq (a b c : Int) : spec_l6In.f a b c = some (decide (b ≤ a) && decide (a ≤ c)) := by
  unfold spec_l6In.f
  by_cases h : a ≥ b
  · rw [if_pos h, decide_eq_true (show b ≤ a from h), Bool.true_and]
  · rw [if_neg h, decide_eq_false (show ¬ b ≤ a from h), Bool.false_and]
theorem specOne_loop (l : List Int) (v : Int) (hl : l.length ≤ 1048576) : ∀ (d k n : Nat), n + d = l.length → d < k →
    spec_l6fOne.l0 k (n : Int) l v = some ((l.drop n).all inS && (decide (1 ≤ l.length) && decide (l.length ≤ 5)) && (decide (1 ≤ v) && decide (v ≤ 9))) := by
  intro d
  induction d with
  | zero =>
    intro k n hn hk
    obtain ⟨k, rfl⟩ := round hk
    simp only [spec_l6fOne.l0]
    rw [if_neg (by omega), List.drop_eq_nil_of_le (by omega), l6In_eq, l6In_eq]
    simp only [bs, List.all_nil, Bool.true_and]
    have e1 : decide ((1 : Int) ≤ (l.length : Int)) = decide (1 ≤ l.length) := by rw [decide_eq_decide]; omega
    have e2 : decide ((l.length : Int) ≤ 5) = decide (l.length ≤ 5) := by rw [decide_eq_decide]; omega
    rw [e1, e2]
    cases (decide (1 ≤ l.length) && decide (l.length ≤ 5)) <;> simp
  | succ d ih =>
    intro k n hn hk
    obtain ⟨k, rfl⟩ := round hk
    obtain ⟨c, hc, hd⟩ := drop_l l n (by omega)
    simp only [spec_l6fOne.l0]
    rw [if_pos (by omega), if_pos (by omega), rdI hc, l6In_eq, hd, List.all_cons]
    simp only [bs]
    rw [w_succ (by omega), ih k (n + 1) (by omega) (by omega)]
    show (if inS c = true then _ else _) = _
    cases inS c <;> simp
theorem specOne (f : Ft) (hl : f.f0.length ≤ 1048576) (k : Nat) (hk : f.f0.length < k) : spec_l6fOne.f k f.f0 f.f1 = some (okB f) := by
  unfold spec_l6fOne.f okB
  have := specOne_loop f.f0 f.f1 hl f.f0.length k 0 (by omega) hk
  rw [List.drop_zero] at this
  exact this
theorem within_loop (l : List Int) (hl : l.length ≤ 1048576) : ∀ (d k n : Nat), n + d = l.length → d < k → impl_allWithin.l0 k 7 l (l.length : Int) (n : Int) = some ((l.drop n).all inS) := by
  intro d
  induction d with
  | zero =>
    intro k n hn hk
    obtain ⟨k, rfl⟩ := round hk
    simp only [impl_allWithin.l0]
    rw [if_neg (by omega), List.drop_eq_nil_of_le (by omega)]
    rfl
  | succ d ih =>
    intro k n hn hk
    obtain ⟨k, rfl⟩ := round hk
    obtain ⟨c, hc, hd⟩ := drop_l l n (by omega)
    simp only [impl_allWithin.l0]
    rw [if_pos (by omega), if_pos (by omega), if_pos (by omega), rdI hc, w_succ (by omega), ih k (n + 1) (by omega) (by omega), hd, List.all_cons, w64 (x := -7) (by omega) (by omega)]
    unfold inS
    by_cases h1 : c < -7
    · rw [if_pos h1, decide_eq_false (by omega)]; simp
    · rw [if_neg h1, decide_eq_true (show -7 ≤ c by omega)]
      by_cases h2 : c > 7
      · rw [if_pos h2, decide_eq_false (by omega)]; simp
      · rw [if_neg h2, decide_eq_true (show c ≤ 7 by omega)]; simp
theorem implOne (f : Ft) (hl : f.f0.length ≤ 1048576) (k : Nat) (hk : f.f0.length < k) : impl_Formula_valid.f k f.f0 f.f1 = some (okB f) := by
  unfold impl_Formula_valid.f okB impl_allWithin.f
  have := within_loop f.f0 hl f.f0.length k 0 (by omega) hk
  rw [List.drop_zero, show ((0 : Nat) : Int) = 0 from rfl] at this
  rw [this]
  simp only [bs]
  by_cases h1 : (f.f0.length : Int) ≥ 1
  · rw [if_pos h1, decide_eq_true (show 1 ≤ f.f0.length by omega)]
    by_cases h2 : (f.f0.length : Int) ≤ 5
    · rw [if_pos h2, decide_eq_true (show f.f0.length ≤ 5 by omega)]
      cases f.f0.all inS with
      | false => simp
      | true =>
        rw [if_pos rfl]
        by_cases h3 : f.f1 ≥ 1
        · rw [if_pos h3, decide_eq_true (show 1 ≤ f.f1 from h3)]; simp
        · rw [if_neg h3, decide_eq_false (show ¬ 1 ≤ f.f1 from h3)]; simp
    · rw [if_neg h2, decide_eq_false (show ¬ f.f0.length ≤ 5 by omega)]; simp
  · rw [if_neg h1, decide_eq_false (show ¬ 1 ≤ f.f0.length by omega)]; simp
theorem same_loop (a b : List Int) (hab : a.length = b.length) (hl : a.length ≤ 1048576) : ∀ (d k n : Nat), n + d = a.length → d < k → spec_l2Same.l0 k a b (n : Int) = some (decide (a.drop n = b.drop n)) := by
  intro d
  induction d with
  | zero =>
    intro k n hn hk
    obtain ⟨k, rfl⟩ := round hk
    simp only [spec_l2Same.l0]
    rw [if_neg (by omega), List.drop_eq_nil_of_le (by omega), List.drop_eq_nil_of_le (by omega)]
    simp
  | succ d ih =>
    intro k n hn hk
    obtain ⟨k, rfl⟩ := round hk
    obtain ⟨c, hc, hd⟩ := drop_l a n (by omega)
    obtain ⟨c2, hc2, hd2⟩ := drop_l b n (by omega)
    simp only [spec_l2Same.l0]
    rw [if_pos (by omega), if_pos (by omega), if_pos (by omega), rdI hc, rdI hc2, w_succ (by omega), ih k (n + 1) (by omega) (by omega), hd, hd2]
    by_cases h : c = c2
    · rw [if_pos h]; simp [h]
    · rw [if_neg h]; simp [h]
theorem specSame (a b : List Int) (hl : a.length ≤ 1048576) (k : Nat) (hk : a.length < k) : spec_l2Same.f k a b = some (decide (a = b)) := by
  unfold spec_l2Same.f
  by_cases h : (a.length : Int) = (b.length : Int)
  · rw [if_pos h]
    have := same_loop a b (by omega) hl a.length k 0 (by omega) hk
    rw [List.drop_zero, List.drop_zero] at this
    exact this
  · rw [if_neg h]
    have : a ≠ b := fun e => h (by rw [e])
    simp [this]
theorem equal_loop (a b : List Int) (hab : a.length = b.length) (hl : a.length ≤ 1048576) : ∀ (d k n : Nat), n + d = a.length → d < k → impl_equalNumbers.l0 k b a (a.length : Int) (n : Int) = some (decide (a.drop n = b.drop n)) := by
  intro d
  induction d with
  | zero =>
    intro k n hn hk
    obtain ⟨k, rfl⟩ := round hk
    simp only [impl_equalNumbers.l0]
    rw [if_neg (by omega), List.drop_eq_nil_of_le (by omega), List.drop_eq_nil_of_le (by omega)]
    simp
  | succ d ih =>
    intro k n hn hk
    obtain ⟨k, rfl⟩ := round hk
    obtain ⟨c, hc, hd⟩ := drop_l a n (by omega)
    obtain ⟨c2, hc2, hd2⟩ := drop_l b n (by omega)
    simp only [impl_equalNumbers.l0]
    rw [if_pos (by omega), if_pos (by omega), if_pos (by omega), if_pos (by omega), rdI hc, rdI hc2, w_succ (by omega), ih k (n + 1) (by omega) (by omega), hd, hd2]
    by_cases h : c = c2
    · rw [if_pos h]; simp [h]
    · rw [if_neg h]; simp [h]
theorem implSame (a b : List Int) (hl : a.length ≤ 1048576) (k : Nat) (hk : a.length < k) : impl_equalNumbers.f k a b = some (decide (a = b)) := by
  unfold impl_equalNumbers.f
  by_cases h : (a.length : Int) = (b.length : Int)
  · rw [if_pos h]
    have := equal_loop a b (by omega) hl a.length k 0 (by omega) hk
    rw [List.drop_zero, List.drop_zero] at this
    exact this
  · rw [if_neg h]
    have : a ≠ b := fun e => h (by rw [e])
    simp [this]
/-- From place n on each formula is within its limits and like none ahead of it. -/
def goB (l : List Ft) : Nat → Nat → Bool
  | 0, _ => true
  | d + 1, n => match l[n]? with
    | none => true
    | some f => okB f && ((l.take n).all (fun o => decide (f.f0 ≠ o.f0)) && goB l d (n + 1))
theorem spec_l1 (l : List Ft) (h : SmF l) (i : Nat) (f : Ft) (hf : l[i]? = some f) (K : Nat) (hK : 1048580 ≤ K) (R : Bool) (H : ∀ k, K ≤ k → spec_FormulasValid.l0 k l ((i + 1 : Nat) : Int) = some R) : ∀ (d k j : Nat), j + d = i → K + d < k →
    spec_FormulasValid.l1 k l (i : Int) (j : Int) = some (((l.take i).drop j).all (fun o => decide (f.f0 ≠ o.f0)) && R) := by
  have hl := h.1
  have hi : i < l.length := (List.getElem?_eq_some_iff.1 hf).1
  have hfl := h.2 f (List.mem_of_getElem? hf)
  intro d
  induction d with
  | zero =>
    intro k j hj hk
    obtain ⟨k, rfl⟩ := round hk
    simp only [spec_FormulasValid.l1]
    rw [if_neg (by omega), w_succ (by omega), H k (by omega), List.drop_eq_nil_of_le (by rw [List.length_take]; omega)]
    simp
  | succ d ih =>
    intro k j hj hk
    obtain ⟨k, rfl⟩ := round hk
    obtain ⟨o, ho, hd⟩ := drop_l (l.take i) j (by rw [List.length_take]; omega)
    have ho2 : l[j]? = some o := by rw [← ho, List.getElem?_take, if_pos (by omega)]
    simp only [spec_FormulasValid.l1]
    rw [if_pos (by omega), if_pos (by omega), if_pos (by omega), if_pos (by omega), if_pos (by omega), rdF hf, rdF ho2, specSame _ _ hfl k (by omega)]
    simp only [bs]
    rw [w_succ (by omega), ih k (j + 1) (by omega) (by omega), hd, List.all_cons]
    by_cases e : f.f0 = o.f0
    · rw [if_pos (by simpa using e)]; simp [e]
    · rw [if_neg (by simpa using e)]; simp [e]
theorem impl_l1 (l : List Ft) (h : SmF l) (i : Nat) (f : Ft) (hf : l[i]? = some f) (K : Nat) (hK : 1048580 ≤ K) (R : Bool) (H : ∀ k, K ≤ k → impl_FormulasValid.l0 k l l (l.length : Int) ((i + 1 : Nat) : Int) = some R) : ∀ (d k j : Nat), j + d = i → K + d < k →
    impl_FormulasValid.l1 k l l (l.length : Int) (i : Int) (l.take i) (i : Int) (j : Int) f.f0 f.f1 = some (((l.take i).drop j).all (fun o => decide (f.f0 ≠ o.f0)) && R) := by
  have hl := h.1
  have hi : i < l.length := (List.getElem?_eq_some_iff.1 hf).1
  intro d
  induction d with
  | zero =>
    intro k j hj hk
    obtain ⟨k, rfl⟩ := round hk
    simp only [impl_FormulasValid.l1]
    rw [if_neg (by omega), w_succ (by omega), H k (by omega), List.drop_eq_nil_of_le (by rw [List.length_take]; omega)]
    simp
  | succ d ih =>
    intro k j hj hk
    obtain ⟨k, rfl⟩ := round hk
    obtain ⟨o, ho, hd⟩ := drop_l (l.take i) j (by rw [List.length_take]; omega)
    have hol := h.2 o (List.mem_of_mem_take (List.mem_of_getElem? ho))
    simp only [impl_FormulasValid.l1]
    rw [if_pos (by omega), if_pos (by omega), if_pos (by rw [List.length_take]; omega), rdF ho, implSame _ _ hol k (by omega)]
    simp only [bs]
    rw [w_succ (by omega), ih k (j + 1) (by omega) (by omega), hd, List.all_cons]
    by_cases e : o.f0 = f.f0
    · rw [if_pos (by simpa using e)]; simp [e]
    · rw [if_neg (by simpa using e)]; simp [Ne.symm e]
theorem spec_l0 (l : List Ft) (h : SmF l) : ∀ (d k n : Nat), n + d = l.length → d * (l.length + 3) + 1048590 ≤ k → spec_FormulasValid.l0 k l (n : Int) = some (goB l d n && decide (l.length ≤ 8)) := by
  have hl := h.1
  intro d
  induction d with
  | zero =>
    intro k n hn hk
    obtain ⟨k, rfl⟩ : ∃ m, k = m + 1 := ⟨k - 1, by omega⟩
    simp only [spec_FormulasValid.l0]
    rw [if_neg (by omega)]
    simp only [goB, Bool.true_and]
    congr 1
    rw [decide_eq_decide]; omega
  | succ d ih =>
    intro k n hn hk
    rw [Nat.succ_mul] at hk
    obtain ⟨k, rfl⟩ : ∃ m, k = m + 1 := ⟨k - 1, by omega⟩
    obtain ⟨f, hf, _⟩ := drop_l l n (by omega)
    have hfl := h.2 f (List.mem_of_getElem? hf)
    simp only [spec_FormulasValid.l0]
    rw [if_pos (by omega), if_pos (by omega), rdF hf, specOne f hfl k (by omega)]
    simp only [bs]
    have := spec_l1 l h n f hf (d * (l.length + 3) + 1048590) (by omega) _ (fun k hk => ih k (n + 1) (by omega) hk) n k 0 (by omega) (by omega)
    rw [show ((0 : Nat) : Int) = 0 from rfl, List.drop_zero] at this
    rw [this]
    simp only [goB, hf]
    cases okB f <;> simp [Bool.and_assoc]
theorem impl_l0 (l : List Ft) (h : SmF l) : ∀ (d k n : Nat), n + d = l.length → d * (l.length + 3) + 1048590 ≤ k → impl_FormulasValid.l0 k l l (l.length : Int) (n : Int) = some (goB l d n) := by
  have hl := h.1
  intro d
  induction d with
  | zero =>
    intro k n hn hk
    obtain ⟨k, rfl⟩ : ∃ m, k = m + 1 := ⟨k - 1, by omega⟩
    simp only [impl_FormulasValid.l0]
    rw [if_neg (by omega)]
    rfl
  | succ d ih =>
    intro k n hn hk
    rw [Nat.succ_mul] at hk
    obtain ⟨k, rfl⟩ : ∃ m, k = m + 1 := ⟨k - 1, by omega⟩
    obtain ⟨f, hf, _⟩ := drop_l l n (by omega)
    have hfl := h.2 f (List.mem_of_getElem? hf)
    simp only [impl_FormulasValid.l0]
    rw [if_pos (by omega), if_pos (by omega), if_pos (by omega), rdF hf, implOne f hfl k (by omega)]
    simp only [bs]
    rw [if_pos (show (n : Int) ≤ (l.length : Int) by omega), Int.toNat_natCast, List.length_take, show min n l.length = n by omega]
    have := impl_l1 l h n f hf (d * (l.length + 3) + 1048590) (by omega) _ (fun k hk => ih k (n + 1) (by omega) hk) n k 0 (by omega) (by omega)
    rw [show ((0 : Nat) : Int) = 0 from rfl, List.drop_zero] at this
    rw [this]
    simp only [goB, hf]
    cases okB f <;> simp
theorem FnExactFormulasValid (l : List Fl) (hm : l.length ≤ 9223372036854775807) (hw : ∀ x ∈ l, (x.f0.length ≤ 9223372036854775807 ∧ ∀ y ∈ x.f0, (Lit.int .i64 y).wf = true) ∧ (Lit.int .i64 x.f1).wf = true) : ∃ k, laws_FnExactFormulasValid.f k l = some true := by
  refine ⟨l.length * (l.length + 3) + l.length + 1048590, ?_⟩
  unfold laws_FnExactFormulasValid.f
  obtain ⟨r, e, hr⟩ := szF l hm (fun x hx => (hw x hx).1.1) (l.length * (l.length + 3) + l.length + 1048590) (by omega)
  rw [e]
  simp only [bs]
  by_cases h : r < 0
  · rw [if_pos h]
  · rw [if_neg h]
    have hs := hr (by omega)
    have hF := sm_cv hs
    have hlen : (l.map cvF).length = l.length := List.length_map ..
    rw [toF l hs _ (by omega)]
    simp only [bs]
    have a := spec_l0 (l.map cvF) hF (l.map cvF).length (l.length * (l.length + 3) + l.length + 1048590) 0 (by omega) (by rw [hlen]; omega)
    rw [show ((0 : Nat) : Int) = 0 from rfl] at a
    have b : impl_FormulasValid.f (l.length * (l.length + 3) + l.length + 1048590) (l.map cvF) = some (goB (l.map cvF) (l.map cvF).length 0 && decide ((l.map cvF).length ≤ 8)) := by
      unfold impl_FormulasValid.f
      by_cases h8 : ((l.map cvF).length : Int) > 8
      · rw [if_pos h8, decide_eq_false (by omega), Bool.and_false]
      · rw [if_neg h8, decide_eq_true (by omega), Bool.and_true]
        have c := impl_l0 (l.map cvF) hF (l.map cvF).length (l.length * (l.length + 3) + l.length + 1048590) 0 (by omega) (by rw [hlen]; omega)
        exact c
    unfold spec_FormulasValid.f
    rw [a, b]
    simp only [bs, bne_self_eq_false, Bool.false_eq_true, if_false]
    rw [eqF _ hF _ (by rw [hlen]; omega)]
    simp only [bs, if_true]
end Go.Proofs.Ytpfgeflnhkpmaaa.ZA
