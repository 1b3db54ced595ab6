/- The plain laws: what the Lean functions of the walks come to. No program and no memory in sight. No condition beyond what each theorem says. -/
import Derived.Test.YtnbjfkjpaaoooaaDoorXAx1
import Derived.Test.YtnbjfkjpaaoooaaDoorXAx2
import Derived.Test.YtnbjfkjpaaoooaaDoorXAx3
import Derived.Test.YtnbjfkjpaaoooaaDoorXAx4
import Derived.Test.YtnbjfkjpaaoooaaDoorXAx5
import Derived.Test.YtnbjfkjpaaoooaaDoorXAx6
import Derived.Lib.IndexLaws
import Derived.Lib.IndexBytes
namespace Go.Proofs.YtnbjfkjpaaoooaaDoor.ZA
open Go.RowKit Go.Proofs.YtnbjfkjpaaoooaaDoor.XA Go.Proofs.YtnbjfkjpaaoooaaDoorW.PrintWords Go.Proofs.YtnbjfkjpaaoooaaDoorW.PrintLast
set_option linter.unusedVariables false
set_option linter.unusedSimpArgs false
theorem w64 {x : Int} (h0 : -9223372036854775808 ≤ x) (h1 : x < 9223372036854775808) : wrap64 x = x := by unfold wrap64; omega
/-- Not by rfl: so simp leaves a proof, and the kernel need not compare the two sides by running them. -/
theorem bs {α β : Type} (a : α) (f : α → Option β) : (some a).bind f = f a := by
  have h : ∀ o : Option α, o = some a → o.bind f = f a := by
    rintro _ rfl
    rfl
  exact h _ rfl
abbrev L (s : ByteArray) : List UInt8 := s.data.toList
theorem L_size (s : ByteArray) : s.size = (L s).length := Lib.size_eq s
theorem ba_ext {x y : ByteArray} (h : L x = L y) : x = y := by
  obtain ⟨⟨a⟩⟩ := x
  obtain ⟨⟨b⟩⟩ := y
  simp only [L] at h
  rw [h]
theorem L_mk (l : List UInt8) : L ⟨l.toArray⟩ = l := by simp [L]
theorem mk_L (s : ByteArray) : (⟨(L s).toArray⟩ : ByteArray) = s := ba_ext (L_mk _)
theorem bt_n (s : ByteArray) (n : Nat) (c : UInt8) (h : (L s)[n]? = some c) : bt s (n : Int) = (c.toNat : Int) := by
  have hn : n < s.size := by rw [L_size]; exact (List.getElem?_eq_some_iff.1 h).1
  unfold bt
  rw [dif_pos (by simpa using hn)]
  have e : s[((n : Int).toNat)]'(by simpa using hn) = c := by
    have h2 := (List.getElem?_eq_some_iff.1 h).2
    rw [← h2]
    rfl
  rw [e]
theorem drop_c (l : List UInt8) (n : Nat) (h : n < l.length) : ∃ c, l[n]? = some c ∧ l.drop n = c :: l.drop (n + 1) :=
  ⟨l[n], List.getElem?_eq_getElem h, List.drop_eq_getElem_cons h⟩
theorem w_succ {n : Nat} (h : n < 4611686018427387904) : wrap64 ((n : Int) + 1) = ((n + 1 : Nat) : Int) := by
  rw [w64 (by omega) (by omega)]; omega
theorem round {k d : Nat} (h : d < k) : ∃ m, k = m + 1 := ⟨k - 1, by omega⟩
theorem u8_of {c : UInt8} {k : Nat} (hk : k < 256) : ((c.toNat : Int) = (k : Int)) ↔ c = UInt8.ofNat k := by
  constructor
  · intro h
    apply UInt8.toNat_inj.1
    rw [UInt8.toNat_ofNat_of_lt' hk]
    omega
  · rintro rfl
    rw [UInt8.toNat_ofNat_of_lt' hk]
theorem toList_L (s : ByteArray) : s.toList = L s := Lib.toList_data s
theorem dw_nil {α : Type} (p : α → Bool) : ∀ m : List α, m.dropWhile p = [] ↔ ∀ c ∈ m, p c = true
  | [] => by simp
  | a :: m => by
    rw [List.dropWhile_cons]
    by_cases h : p a = true
    · rw [if_pos h, dw_nil p m]
      simp [h]
    · rw [if_neg h]
      simp [h]
theorem dw_cons {α : Type} (p : α → Bool) : ∀ (l : List α) (a : α) (m : List α), l.dropWhile p = a :: m → p a = false
  | [], a, m, h => by simp at h
  | b :: l, a, m, h => by
    rw [List.dropWhile_cons] at h
    by_cases hb : p b = true
    · rw [if_pos hb] at h
      exact dw_cons p l a m h
    · rw [if_neg hb] at h
      injection h with h1 _
      rw [← h1]
      simpa using hb
theorem trim_nil (l cs : List UInt8) : Lib.trimS l cs = [] ↔ ∀ c ∈ l, cs.contains c = true := by
  have hr : ∀ m : List UInt8, m.dropWhile (cs.contains ·) = [] ↔ ∀ c ∈ m, cs.contains c = true := fun m => dw_nil _ m
  unfold Lib.trimS Lib.trimLeftS
  rw [hr]
  unfold Lib.trimRightS
  constructor
  · intro h
    have h1 : l.reverse.dropWhile (cs.contains ·) = [] := by
      cases hm : l.reverse.dropWhile (cs.contains ·) with
      | nil => rfl
      | cons a m =>
        have h2 : cs.contains a = false := dw_cons (cs.contains ·) l.reverse a m hm
        have := h a (by rw [hm]; simp)
        rw [h2] at this
        cases this
    intro c hc
    exact (hr l.reverse).1 h1 c (by simpa using hc)
  · intro h c hc
    have : c ∈ l.reverse.dropWhile (cs.contains ·) := by simpa using hc
    exact h c (by simpa using (List.dropWhile_sublist _).subset this)
theorem is_u (c : UInt8) : ((c.toNat : Int) = 117) ↔ c = 117 := u8_of (k := 117) (by omega)
theorem is_d (c : UInt8) : ((c.toNat : Int) = 100) ↔ c = 100 := u8_of (k := 100) (by omega)
theorem is_s (c : UInt8) : ((c.toNat : Int) = 115) ↔ c = 115 := u8_of (k := 115) (by omega)
/-- A way. -/
def wayC (c : UInt8) : Bool := c == 117 || (c == 100 || c == 115)
theorem wayC_cases (c : UInt8) (h : wayC c = true) : c = 117 ∨ c = 100 ∨ c = 115 := by
  simpa [wayC] using h
/-- A contour. -/
def cv (s : ByteArray) : Bool := (L s).all wayC && decide (s.size < 24)
theorem cvalid_loop (s : ByteArray) (hs : s.size ≤ 1100000) (d : Nat) : ∀ k n : Nat, n + d = s.size → d < k →
    spec_ContourValid.l0 k s (n : Int) = some (((L s).drop n).all wayC && decide (s.size < 24)) := by
  induction d with
  | zero =>
    intro k n hn hk
    obtain ⟨k, rfl⟩ := round hk
    simp only [spec_ContourValid.l0]
    rw [if_neg (by omega), show (L s).drop n = [] from List.drop_eq_nil_of_le (by rw [← L_size]; omega)]
    simp
    omega
  | succ d ih =>
    intro k n hn hk
    obtain ⟨k, rfl⟩ := round hk
    obtain ⟨c, hc, hd⟩ := drop_c (L s) n (by rw [← L_size]; omega)
    simp only [spec_ContourValid.l0]
    rw [if_pos (by omega), if_pos (by omega), bt_n s n c hc, w_succ (by omega), ih k (n + 1) (by omega) (by omega), hd, List.all_cons]
    by_cases h : c = 117
    · subst h
      rw [if_pos (by decide)]
      simp [wayC]
    · rw [if_neg (fun e => h ((is_u c).1 e))]
      by_cases h2 : c = 100
      · subst h2
        rw [if_pos (by decide)]
        simp [wayC]
      · rw [if_neg (fun e => h2 ((is_d c).1 e))]
        by_cases h3 : c = 115
        · subst h3
          rw [if_pos (by decide)]
          simp [wayC]
        · rw [if_neg (fun e => h3 ((is_s c).1 e))]
          have : wayC c = false := by simp [wayC, h, h2, h3]
          rw [this]
          simp
theorem specCV (s : ByteArray) (hs : s.size ≤ 1100000) (k : Nat) (hk : s.size < k) : spec_ContourValid.f k s = some (cv s) := by
  unfold spec_ContourValid.f cv
  have := cvalid_loop s hs s.size k 0 (by omega) hk
  rw [show ((0 : Nat) : Int) = 0 from rfl] at this
  rw [this, List.drop_zero]
theorem implCV (s : ByteArray) (hs : s.size ≤ 1100000) : impl_ContourValid.f s = some (cv s) := by
  unfold impl_ContourValid.f cv strings_Trim.f
  by_cases h : s.size < 24
  · rw [if_pos (by omega), if_pos ⟨by omega, by decide, by decide⟩, decide_eq_true h, Bool.and_true]
    simp only [bs, toList_L, L_mk]
    congr 1
    rw [Bool.eq_iff_iff, beq_iff_eq, trim_nil, List.all_eq_true]
    constructor
    · intro g c hc
      have := g c hc
      simpa [wayC] using this
    · intro g c hc
      have := g c hc
      simpa [wayC] using this
  · rw [if_neg (by omega), decide_eq_false h, Bool.and_false]
theorem cv_size (s : ByteArray) (h : cv s = true) : s.size < 24 := by
  unfold cv at h
  rw [Bool.and_eq_true, decide_eq_true_eq] at h
  exact h.2
theorem cv_all (s : ByteArray) (h : cv s = true) : ∀ c ∈ L s, wayC c = true := by
  unfold cv at h
  rw [Bool.and_eq_true, List.all_eq_true] at h
  exact h.1
theorem cv_mk (l : List UInt8) (h : ∀ c ∈ l, wayC c = true) (hn : l.length < 24) : cv ⟨l.toArray⟩ = true := by
  unfold cv
  rw [Bool.and_eq_true, List.all_eq_true, decide_eq_true_eq, L_size, L_mk]
  exact ⟨h, hn⟩
/-- The opposite way. -/
def ot (c : UInt8) : UInt8 := if c = 117 then 100 else if c = 100 then 117 else 115
theorem ot_way (c : UInt8) : wayC (ot c) = true := by
  unfold ot
  split
  · rfl
  · split <;> rfl
theorem ot_ot (c : UInt8) (h : wayC c = true) : ot (ot c) = c := by
  rcases wayC_cases c h with rfl | rfl | rfl <;> decide
theorem other_eq (c : UInt8) : spec_l3Other.f (c.toNat : Int) = some ⟨#[ot c]⟩ := by
  unfold spec_l3Other.f ot
  by_cases h : c = 117
  · rw [if_pos ((is_u c).2 h), if_pos h]
  · rw [if_neg (fun e => h ((is_u c).1 e)), if_neg h]
    by_cases h2 : c = 100
    · rw [if_pos ((is_d c).2 h2), if_pos h2]
    · rw [if_neg (fun e => h2 ((is_d c).1 e)), if_neg h2]
theorem turned_eq (c : UInt8) (h : wayC c = true) : impl_turnedWay.f (c.toNat : Int) = some ((ot c).toNat : Int) := by
  rcases wayC_cases c h with rfl | rfl | rfl <;> decide
theorem strOf (l : List UInt8) : strOfNums (l.map fun c => (c.toNat : Int)) = ⟨l.toArray⟩ := by
  unfold strOfNums
  rw [List.map_map]
  congr 2
  conv => rhs; rw [← List.map_id l]
  apply List.map_congr_left
  intro c _
  simp
theorem ba_push (l : List UInt8) (c : UInt8) : (⟨l.toArray⟩ : ByteArray) ++ ⟨#[c]⟩ = ⟨(l ++ [c]).toArray⟩ := ba_ext (by simp [L])
theorem sz_mk (l : List UInt8) : (⟨l.toArray⟩ : ByteArray).size = l.length := by rw [L_size, L_mk]
theorem sz_one (c : UInt8) : (⟨#[c]⟩ : ByteArray).size = 1 := rfl
theorem specTurn_loop (s : ByteArray) (hs : s.size ≤ 1000) (d : Nat) : ∀ (k n : Nat) (x : List UInt8), n + d = s.size → d < k → x.length = n →
    spec_ContourTurn.l0 k s ⟨x.toArray⟩ (n : Int) = some (⟨(x ++ ((L s).drop n).map ot).toArray⟩, true) := by
  induction d with
  | zero =>
    intro k n x hn hk hx
    obtain ⟨k, rfl⟩ := round hk
    simp only [spec_ContourTurn.l0]
    rw [if_neg (by omega), show (L s).drop n = [] from List.drop_eq_nil_of_le (by rw [← L_size]; omega)]
    simp
  | succ d ih =>
    intro k n x hn hk hx
    obtain ⟨k, rfl⟩ := round hk
    obtain ⟨c, hc, hd⟩ := drop_c (L s) n (by rw [← L_size]; omega)
    simp only [spec_ContourTurn.l0]
    rw [if_pos (by omega), if_pos (by omega), bt_n s n c hc, other_eq]
    simp only [bs]
    rw [sz_mk, sz_one, if_pos (by omega), ba_push, w_succ (by omega), ih k (n + 1) _ (by omega) (by omega) (by simp; omega), hd]
    simp
theorem implTurn_loop (s : ByteArray) (hs : s.size ≤ 1000) (hw : ∀ c ∈ L s, wayC c = true) (d : Nat) : ∀ (k n : Nat) (x : List UInt8), n + d = s.size → d < k → x.length = n →
    impl_ContourTurn.l0 k s (x.map fun c => (c.toNat : Int)) (s.size : Int) (n : Int) = some (⟨(x ++ ((L s).drop n).map ot).toArray⟩, true) := by
  induction d with
  | zero =>
    intro k n x hn hk hx
    obtain ⟨k, rfl⟩ := round hk
    simp only [impl_ContourTurn.l0]
    rw [if_neg (by omega), show (L s).drop n = [] from List.drop_eq_nil_of_le (by rw [← L_size]; omega), strOf]
    simp
  | succ d ih =>
    intro k n x hn hk hx
    obtain ⟨k, rfl⟩ := round hk
    obtain ⟨c, hc, hd⟩ := drop_c (L s) n (by rw [← L_size]; omega)
    simp only [impl_ContourTurn.l0]
    rw [if_pos (by omega), if_pos (by omega), if_pos (by omega), bt_n s n c hc, turned_eq c (hw c (List.mem_of_getElem? hc))]
    simp only [bs]
    have e : (x.map fun c => (c.toNat : Int)) ++ [((ot c).toNat : Int)] = (x ++ [ot c]).map fun c => (c.toNat : Int) := by simp
    rw [if_pos (by rw [List.length_map]; omega), e, w_succ (by omega), ih k (n + 1) _ (by omega) (by omega) (by simp; omega), hd]
    simp
/-- The turned contour. -/
def turnB (s : ByteArray) : ByteArray := ⟨((L s).map ot).toArray⟩
theorem specTurn (s : ByteArray) (hs : s.size ≤ 1100000) (k : Nat) (hk : s.size < k) : spec_ContourTurn.f k s = some (if cv s = true then (turnB s, true) else (⟨#[]⟩, false)) := by
  unfold spec_ContourTurn.f
  rw [specCV s hs k hk]
  simp only [bs]
  by_cases h : cv s = true
  · rw [if_pos h, if_pos h]
    have := specTurn_loop s (by have := cv_size s h; omega) s.size k 0 [] (by omega) hk rfl
    rw [show ((0 : Nat) : Int) = 0 from rfl, List.nil_append, List.drop_zero] at this
    exact this
  · rw [if_neg h, if_neg h]
theorem implTurn (s : ByteArray) (hs : s.size ≤ 1100000) (k : Nat) (hk : s.size < k) : impl_ContourTurn.f k s = some (if cv s = true then (turnB s, true) else (⟨#[]⟩, false)) := by
  unfold impl_ContourTurn.f
  rw [implCV s hs]
  simp only [bs]
  by_cases h : cv s = true
  · rw [if_pos h, if_pos h]
    have := implTurn_loop s (by have := cv_size s h; omega) (cv_all s h) s.size k 0 [] (by omega) hk rfl
    rw [show ((0 : Nat) : Int) = 0 from rfl, List.nil_append, List.drop_zero] at this
    exact this
  · rw [if_neg h, if_neg h]
theorem specBack_loop (s : ByteArray) (hs : s.size ≤ 1000) : ∀ (n k : Nat) (x : List UInt8), n ≤ s.size → n < k → x.length + n = s.size →
    spec_ContourBack.l0 k s ⟨x.toArray⟩ ((n : Int) - 1) = some (⟨(x ++ ((L s).take n).reverse.map ot).toArray⟩, true) := by
  intro n
  induction n with
  | zero =>
    intro k x hn hk hx
    obtain ⟨k, rfl⟩ := round hk
    simp only [spec_ContourBack.l0]
    rw [if_neg (by omega)]
    simp
  | succ n ih =>
    intro k x hn hk hx
    obtain ⟨k, rfl⟩ := round hk
    obtain ⟨c, hc, _⟩ := drop_c (L s) n (by rw [← L_size]; omega)
    simp only [spec_ContourBack.l0]
    rw [show ((n + 1 : Nat) : Int) - 1 = (n : Int) by omega, if_pos (by omega), if_pos (by omega), if_pos (by omega), bt_n s n c hc, other_eq]
    simp only [bs]
    rw [sz_mk, sz_one, if_pos (by omega), ba_push, w64 (x := (n : Int) - 1) (by omega) (by omega), ih k _ (by omega) (by omega) (by simp; omega), List.take_add_one, hc]
    simp
theorem implBack_loop (s : ByteArray) (hs : s.size ≤ 1000) (hw : ∀ c ∈ L s, wayC c = true) : ∀ (n k : Nat) (x : List UInt8), n ≤ s.size → n < k → x.length + n = s.size →
    impl_ContourBack.l0 k s (x.map fun c => (c.toNat : Int)) ((n : Int) - 1) = some (⟨(x ++ ((L s).take n).reverse.map ot).toArray⟩, true) := by
  intro n
  induction n with
  | zero =>
    intro k x hn hk hx
    obtain ⟨k, rfl⟩ := round hk
    simp only [impl_ContourBack.l0]
    rw [if_neg (by omega), strOf]
    simp
  | succ n ih =>
    intro k x hn hk hx
    obtain ⟨k, rfl⟩ := round hk
    obtain ⟨c, hc, _⟩ := drop_c (L s) n (by rw [← L_size]; omega)
    simp only [impl_ContourBack.l0]
    rw [show ((n + 1 : Nat) : Int) - 1 = (n : Int) by omega, if_pos (by omega), if_pos (by omega), if_pos (by omega), bt_n s n c hc, turned_eq c (hw c (List.mem_of_getElem? hc))]
    simp only [bs]
    have e : (x.map fun c => (c.toNat : Int)) ++ [((ot c).toNat : Int)] = (x ++ [ot c]).map fun c => (c.toNat : Int) := by simp
    rw [if_pos (by rw [List.length_map]; omega), e, w64 (x := (n : Int) - 1) (by omega) (by omega), ih k _ (by omega) (by omega) (by simp; omega), List.take_add_one, hc]
    simp
/-- The contour of the tones in the opposite order. -/
def backB (s : ByteArray) : ByteArray := ⟨((L s).reverse.map ot).toArray⟩
theorem specBack (s : ByteArray) (hs : s.size ≤ 1100000) (k : Nat) (hk : s.size < k) : spec_ContourBack.f k s = some (if cv s = true then (backB s, true) else (⟨#[]⟩, false)) := by
  unfold spec_ContourBack.f
  rw [specCV s hs k hk]
  simp only [bs]
  by_cases h : cv s = true
  · rw [if_pos h, if_pos h]
    have := specBack_loop s (by have := cv_size s h; omega) s.size k [] (by omega) hk (by simp)
    rw [L_size s, List.take_length, List.nil_append, ← L_size s] at this
    rw [w64 (by omega) (by omega)]
    exact this
  · rw [if_neg h, if_neg h]
theorem implBack (s : ByteArray) (hs : s.size ≤ 1100000) (k : Nat) (hk : s.size < k) : impl_ContourBack.f k s = some (if cv s = true then (backB s, true) else (⟨#[]⟩, false)) := by
  unfold impl_ContourBack.f
  rw [implCV s hs]
  simp only [bs]
  by_cases h : cv s = true
  · rw [if_pos h, if_pos h]
    have := implBack_loop s (by have := cv_size s h; omega) (cv_all s h) s.size k [] (by omega) hk (by simp)
    rw [L_size s, List.take_length, List.nil_append, ← L_size s] at this
    rw [w64 (by omega) (by omega)]
    exact this
  · rw [if_neg h, if_neg h]
theorem FnExactContourValid (s : ByteArray) (_ : s.size ≤ 140737488351232) : ∃ k, laws_FnExactContourValid.f k s = some true := by
  refine ⟨s.size + 1, ?_⟩
  unfold laws_FnExactContourValid.f
  by_cases h : (s.size : Int) > 1048576
  · rw [if_pos h]
  rw [if_neg h, specCV s (by omega) _ (by omega), implCV s (by omega)]
  simp only [bs, bne_self_eq_false, Bool.false_eq_true, if_false]
theorem FnExactContourTurn (s : ByteArray) (_ : s.size ≤ 140737488351232) : ∃ k, laws_FnExactContourTurn.f k s = some true := by
  refine ⟨s.size + 1, ?_⟩
  unfold laws_FnExactContourTurn.f
  by_cases h : (s.size : Int) > 1048576
  · rw [if_pos h]
  rw [if_neg h, specTurn s (by omega) _ (by omega), implTurn s (by omega) _ (by omega)]
  simp only [bs, bne_self_eq_false, Bool.false_eq_true, if_false, if_true]
theorem FnExactContourBack (s : ByteArray) (_ : s.size ≤ 140737488351232) : ∃ k, laws_FnExactContourBack.f k s = some true := by
  refine ⟨s.size + 1, ?_⟩
  unfold laws_FnExactContourBack.f
  by_cases h : (s.size : Int) > 1048576
  · rw [if_pos h]
  rw [if_neg h, specBack s (by omega) _ (by omega), implBack s (by omega) _ (by omega)]
  simp only [bs, bne_self_eq_false, Bool.false_eq_true, if_false, if_true]
end Go.Proofs.YtnbjfkjpaaoooaaDoor.ZA
