/- The plain laws: what the Lean functions of the walks come to. No program and no memory in sight. No condition beyond what each theorem says. -/
import Derived.Test.YtnbjfkjpaaoooaaDoorXAx1
import Derived.Test.YtnbjfkjpaaoooaaDoorXAx3
import Derived.Test.YtnbjfkjpaaoooaaDoorXAx5
import Derived.Test.YtnbjfkjpaaoooaaDoorXAx7
import Derived.Test.YtnbjfkjpaaoooaaDoorXAx8
import Derived.Test.YtnbjfkjpaaoooaaDoorXAx11
import Derived.Test.YtnbjfkjpaaoooaaDoorXAx12
import Derived.Test.YtnbjfkjpaaoooaaDoorXAx13
import Derived.Test.YtnbjfkjpaaoooaaDoorXAx14
import Derived.Test.YtnbjfkjpaaoooaaDoorXAx16
import Derived.Test.YtnbjfkjpaaoooaaDoorXAx17
import Derived.Test.YtnbjfkjpaaoooaaDoorXAx23
import Derived.Lib.IndexLaws
import Derived.Lib.IndexBytes
namespace Go.Proofs.YtnbjfkjpaaoooaaDoor.ZA
open Go.RowKit Go.Proofs.YtnbjfkjpaaoooaaDoor.XA Go.Proofs.YtnbjfkjpaaoooaaDoorW.PrintWords Go.Proofs.YtnbjfkjpaaoooaaDoorW.PrintLast
set_option linter.unusedVariables false
set_option linter.unusedSimpArgs false
theorem w64 {x : Int} (h0 : -9223372036854775808 ≤ x) (h1 : x < 9223372036854775808) : wrap64 x = x := by unfold wrap64; omega
/-- Not by rfl: so simp leaves a proof, and the kernel need not compare the two sides by running them. -/
theorem bs {α β : Type} (a : α) (f : α → Option β) : (some a).bind f = f a := by
  have h : ∀ o : Option α, o = some a → o.bind f = f a := by
    rintro _ rfl
    rfl
  exact h _ rfl
abbrev L (s : ByteArray) : List UInt8 := s.data.toList
theorem L_size (s : ByteArray) : s.size = (L s).length := Lib.size_eq s
theorem ba_ext {x y : ByteArray} (h : L x = L y) : x = y := by
  obtain ⟨⟨a⟩⟩ := x
  obtain ⟨⟨b⟩⟩ := y
  simp only [L] at h
  rw [h]
theorem L_mk (l : List UInt8) : L ⟨l.toArray⟩ = l := by simp [L]
theorem mk_L (s : ByteArray) : (⟨(L s).toArray⟩ : ByteArray) = s := ba_ext (L_mk _)
theorem bt_n (s : ByteArray) (n : Nat) (c : UInt8) (h : (L s)[n]? = some c) : bt s (n : Int) = (c.toNat : Int) := by
  have hn : n < s.size := by rw [L_size]; exact (List.getElem?_eq_some_iff.1 h).1
  unfold bt
  rw [dif_pos (by simpa using hn)]
  have e : s[((n : Int).toNat)]'(by simpa using hn) = c := by
    have h2 := (List.getElem?_eq_some_iff.1 h).2
    rw [← h2]
    rfl
  rw [e]
theorem drop_c (l : List UInt8) (n : Nat) (h : n < l.length) : ∃ c, l[n]? = some c ∧ l.drop n = c :: l.drop (n + 1) :=
  ⟨l[n], List.getElem?_eq_getElem h, List.drop_eq_getElem_cons h⟩
theorem w_succ {n : Nat} (h : n < 4611686018427387904) : wrap64 ((n : Int) + 1) = ((n + 1 : Nat) : Int) := by
  rw [w64 (by omega) (by omega)]; omega
theorem round {k d : Nat} (h : d < k) : ∃ m, k = m + 1 := ⟨k - 1, by omega⟩
theorem u8_of {c : UInt8} {k : Nat} (hk : k < 256) : ((c.toNat : Int) = (k : Int)) ↔ c = UInt8.ofNat k := by
  constructor
  · intro h
    apply UInt8.toNat_inj.1
    rw [UInt8.toNat_ofNat_of_lt' hk]
    omega
  · rintro rfl
    rw [UInt8.toNat_ofNat_of_lt' hk]
theorem toList_L (s : ByteArray) : s.toList = L s := Lib.toList_data s
theorem dw_nil {α : Type} (p : α → Bool) : ∀ m : List α, m.dropWhile p = [] ↔ ∀ c ∈ m, p c = true
  | [] => by simp
  | a :: m => by
    rw [List.dropWhile_cons]
    by_cases h : p a = true
    · rw [if_pos h, dw_nil p m]
      simp [h]
    · rw [if_neg h]
      simp [h]
theorem dw_cons {α : Type} (p : α → Bool) : ∀ (l : List α) (a : α) (m : List α), l.dropWhile p = a :: m → p a = false
  | [], a, m, h => by simp at h
  | b :: l, a, m, h => by
    rw [List.dropWhile_cons] at h
    by_cases hb : p b = true
    · rw [if_pos hb] at h
      exact dw_cons p l a m h
    · rw [if_neg hb] at h
      injection h with h1 _
      rw [← h1]
      simpa using hb
theorem trim_nil (l cs : List UInt8) : Lib.trimS l cs = [] ↔ ∀ c ∈ l, cs.contains c = true := by
  have hr : ∀ m : List UInt8, m.dropWhile (cs.contains ·) = [] ↔ ∀ c ∈ m, cs.contains c = true := fun m => dw_nil _ m
  unfold Lib.trimS Lib.trimLeftS
  rw [hr]
  unfold Lib.trimRightS
  constructor
  · intro h
    have h1 : l.reverse.dropWhile (cs.contains ·) = [] := by
      cases hm : l.reverse.dropWhile (cs.contains ·) with
      | nil => rfl
      | cons a m =>
        have h2 : cs.contains a = false := dw_cons (cs.contains ·) l.reverse a m hm
        have := h a (by rw [hm]; simp)
        rw [h2] at this
        cases this
    intro c hc
    exact (hr l.reverse).1 h1 c (by simpa using hc)
  · intro h c hc
    have : c ∈ l.reverse.dropWhile (cs.contains ·) := by simpa using hc
    exact h c (by simpa using (List.dropWhile_sublist _).subset this)
theorem is_u (c : UInt8) : ((c.toNat : Int) = 117) ↔ c = 117 := u8_of (k := 117) (by omega)
theorem is_d (c : UInt8) : ((c.toNat : Int) = 100) ↔ c = 100 := u8_of (k := 100) (by omega)
theorem is_s (c : UInt8) : ((c.toNat : Int) = 115) ↔ c = 115 := u8_of (k := 115) (by omega)
/-- A way. -/
def wayC (c : UInt8) : Bool := c == 117 || (c == 100 || c == 115)
theorem wayC_cases (c : UInt8) (h : wayC c = true) : c = 117 ∨ c = 100 ∨ c = 115 := by
  simpa [wayC] using h
/-- A contour. -/
def cv (s : ByteArray) : Bool := (L s).all wayC && decide (s.size < 24)
theorem cvalid_loop (s : ByteArray) (hs : s.size ≤ 1100000) (d : Nat) : ∀ k n : Nat, n + d = s.size → d < k →
    spec_ContourValid.l0 k s (n : Int) = some (((L s).drop n).all wayC && decide (s.size < 24)) := by
  induction d with
  | zero =>
    intro k n hn hk
    obtain ⟨k, rfl⟩ := round hk
    simp only [spec_ContourValid.l0]
    rw [if_neg (by omega), show (L s).drop n = [] from List.drop_eq_nil_of_le (by rw [← L_size]; omega)]
    simp
    omega
  | succ d ih =>
    intro k n hn hk
    obtain ⟨k, rfl⟩ := round hk
    obtain ⟨c, hc, hd⟩ := drop_c (L s) n (by rw [← L_size]; omega)
    simp only [spec_ContourValid.l0]
    rw [if_pos (by omega), if_pos (by omega), bt_n s n c hc, w_succ (by omega), ih k (n + 1) (by omega) (by omega), hd, List.all_cons]
    by_cases h : c = 117
    · subst h
      rw [if_pos (by decide)]
      simp [wayC]
    · rw [if_neg (fun e => h ((is_u c).1 e))]
      by_cases h2 : c = 100
      · subst h2
        rw [if_pos (by decide)]
        simp [wayC]
      · rw [if_neg (fun e => h2 ((is_d c).1 e))]
        by_cases h3 : c = 115
        · subst h3
          rw [if_pos (by decide)]
          simp [wayC]
        · rw [if_neg (fun e => h3 ((is_s c).1 e))]
          have : wayC c = false := by simp [wayC, h, h2, h3]
          rw [this]
          simp
theorem specCV (s : ByteArray) (hs : s.size ≤ 1100000) (k : Nat) (hk : s.size < k) : spec_ContourValid.f k s = some (cv s) := by
  unfold spec_ContourValid.f cv
  have := cvalid_loop s hs s.size k 0 (by omega) hk
  rw [show ((0 : Nat) : Int) = 0 from rfl] at this
  rw [this, List.drop_zero]
theorem implCV (s : ByteArray) (hs : s.size ≤ 1100000) : impl_ContourValid.f s = some (cv s) := by
  unfold impl_ContourValid.f cv strings_Trim.f
  by_cases h : s.size < 24
  · rw [if_pos (by omega), if_pos ⟨by omega, by decide, by decide⟩, decide_eq_true h, Bool.and_true]
    simp only [bs, toList_L, L_mk]
    congr 1
    rw [Bool.eq_iff_iff, beq_iff_eq, trim_nil, List.all_eq_true]
    constructor
    · intro g c hc
      have := g c hc
      simpa [wayC] using this
    · intro g c hc
      have := g c hc
      simpa [wayC] using this
  · rw [if_neg (by omega), decide_eq_false h, Bool.and_false]
theorem cv_size (s : ByteArray) (h : cv s = true) : s.size < 24 := by
  unfold cv at h
  rw [Bool.and_eq_true, decide_eq_true_eq] at h
  exact h.2
theorem cv_all (s : ByteArray) (h : cv s = true) : ∀ c ∈ L s, wayC c = true := by
  unfold cv at h
  rw [Bool.and_eq_true, List.all_eq_true] at h
  exact h.1
theorem cv_mk (l : List UInt8) (h : ∀ c ∈ l, wayC c = true) (hn : l.length < 24) : cv ⟨l.toArray⟩ = true := by
  unfold cv
  rw [Bool.and_eq_true, List.all_eq_true, decide_eq_true_eq, L_size, L_mk]
  exact ⟨h, hn⟩
/-- The opposite way. -/
def ot (c : UInt8) : UInt8 := if c = 117 then 100 else if c = 100 then 117 else 115
theorem ot_way (c : UInt8) : wayC (ot c) = true := by
  unfold ot
  split
  · rfl
  · split <;> rfl
theorem ot_ot (c : UInt8) (h : wayC c = true) : ot (ot c) = c := by
  rcases wayC_cases c h with rfl | rfl | rfl <;> decide
theorem other_eq (c : UInt8) : spec_l3Other.f (c.toNat : Int) = some ⟨#[ot c]⟩ := by
  unfold spec_l3Other.f ot
  by_cases h : c = 117
  · rw [if_pos ((is_u c).2 h), if_pos h]
  · rw [if_neg (fun e => h ((is_u c).1 e)), if_neg h]
    by_cases h2 : c = 100
    · rw [if_pos ((is_d c).2 h2), if_pos h2]
    · rw [if_neg (fun e => h2 ((is_d c).1 e)), if_neg h2]
theorem turned_eq (c : UInt8) (h : wayC c = true) : impl_turnedWay.f (c.toNat : Int) = some ((ot c).toNat : Int) := by
  rcases wayC_cases c h with rfl | rfl | rfl <;> decide
theorem strOf (l : List UInt8) : strOfNums (l.map fun c => (c.toNat : Int)) = ⟨l.toArray⟩ := by
  unfold strOfNums
  rw [List.map_map]
  congr 2
  conv => rhs; rw [← List.map_id l]
  apply List.map_congr_left
  intro c _
  simp
theorem ba_push (l : List UInt8) (c : UInt8) : (⟨l.toArray⟩ : ByteArray) ++ ⟨#[c]⟩ = ⟨(l ++ [c]).toArray⟩ := ba_ext (by simp [L])
theorem sz_mk (l : List UInt8) : (⟨l.toArray⟩ : ByteArray).size = l.length := by rw [L_size, L_mk]
theorem sz_one (c : UInt8) : (⟨#[c]⟩ : ByteArray).size = 1 := rfl
theorem specTurn_loop (s : ByteArray) (hs : s.size ≤ 1000) (d : Nat) : ∀ (k n : Nat) (x : List UInt8), n + d = s.size → d < k → x.length = n →
    spec_ContourTurn.l0 k s ⟨x.toArray⟩ (n : Int) = some (⟨(x ++ ((L s).drop n).map ot).toArray⟩, true) := by
  induction d with
  | zero =>
    intro k n x hn hk hx
    obtain ⟨k, rfl⟩ := round hk
    simp only [spec_ContourTurn.l0]
    rw [if_neg (by omega), show (L s).drop n = [] from List.drop_eq_nil_of_le (by rw [← L_size]; omega)]
    simp
  | succ d ih =>
    intro k n x hn hk hx
    obtain ⟨k, rfl⟩ := round hk
    obtain ⟨c, hc, hd⟩ := drop_c (L s) n (by rw [← L_size]; omega)
    simp only [spec_ContourTurn.l0]
    rw [if_pos (by omega), if_pos (by omega), bt_n s n c hc, other_eq]
    simp only [bs]
    rw [sz_mk, sz_one, if_pos (by omega), ba_push, w_succ (by omega), ih k (n + 1) _ (by omega) (by omega) (by simp; omega), hd]
    simp
theorem implTurn_loop (s : ByteArray) (hs : s.size ≤ 1000) (hw : ∀ c ∈ L s, wayC c = true) (d : Nat) : ∀ (k n : Nat) (x : List UInt8), n + d = s.size → d < k → x.length = n →
    impl_ContourTurn.l0 k s (x.map fun c => (c.toNat : Int)) (s.size : Int) (n : Int) = some (⟨(x ++ ((L s).drop n).map ot).toArray⟩, true) := by
  induction d with
  | zero =>
    intro k n x hn hk hx
    obtain ⟨k, rfl⟩ := round hk
    simp only [impl_ContourTurn.l0]
    rw [if_neg (by omega), show (L s).drop n = [] from List.drop_eq_nil_of_le (by rw [← L_size]; omega), strOf]
    simp
  | succ d ih =>
    intro k n x hn hk hx
    obtain ⟨k, rfl⟩ := round hk
    obtain ⟨c, hc, hd⟩ := drop_c (L s) n (by rw [← L_size]; omega)
    simp only [impl_ContourTurn.l0]
    rw [if_pos (by omega), if_pos (by omega), if_pos (by omega), bt_n s n c hc, turned_eq c (hw c (List.mem_of_getElem? hc))]
    simp only [bs]
    have e : (x.map fun c => (c.toNat : Int)) ++ [((ot c).toNat : Int)] = (x ++ [ot c]).map fun c => (c.toNat : Int) := by simp
    rw [if_pos (by rw [List.length_map]; omega), e, w_succ (by omega), ih k (n + 1) _ (by omega) (by omega) (by simp; omega), hd]
    simp
/-- The turned contour. -/
def turnB (s : ByteArray) : ByteArray := ⟨((L s).map ot).toArray⟩
theorem specTurn (s : ByteArray) (hs : s.size ≤ 1100000) (k : Nat) (hk : s.size < k) : spec_ContourTurn.f k s = some (if cv s = true then (turnB s, true) else (⟨#[]⟩, false)) := by
  unfold spec_ContourTurn.f
  rw [specCV s hs k hk]
  simp only [bs]
  by_cases h : cv s = true
  · rw [if_pos h, if_pos h]
    have := specTurn_loop s (by have := cv_size s h; omega) s.size k 0 [] (by omega) hk rfl
    rw [show ((0 : Nat) : Int) = 0 from rfl, List.nil_append, List.drop_zero] at this
    exact this
  · rw [if_neg h, if_neg h]
theorem implTurn (s : ByteArray) (hs : s.size ≤ 1100000) (k : Nat) (hk : s.size < k) : impl_ContourTurn.f k s = some (if cv s = true then (turnB s, true) else (⟨#[]⟩, false)) := by
  unfold impl_ContourTurn.f
  rw [implCV s hs]
  simp only [bs]
  by_cases h : cv s = true
  · rw [if_pos h, if_pos h]
    have := implTurn_loop s (by have := cv_size s h; omega) (cv_all s h) s.size k 0 [] (by omega) hk rfl
    rw [show ((0 : Nat) : Int) = 0 from rfl, List.nil_append, List.drop_zero] at this
    exact this
  · rw [if_neg h, if_neg h]
theorem specBack_loop (s : ByteArray) (hs : s.size ≤ 1000) : ∀ (n k : Nat) (x : List UInt8), n ≤ s.size → n < k → x.length + n = s.size →
    spec_ContourBack.l0 k s ⟨x.toArray⟩ ((n : Int) - 1) = some (⟨(x ++ ((L s).take n).reverse.map ot).toArray⟩, true) := by
  intro n
  induction n with
  | zero =>
    intro k x hn hk hx
    obtain ⟨k, rfl⟩ := round hk
    simp only [spec_ContourBack.l0]
    rw [if_neg (by omega)]
    simp
  | succ n ih =>
    intro k x hn hk hx
    obtain ⟨k, rfl⟩ := round hk
    obtain ⟨c, hc, _⟩ := drop_c (L s) n (by rw [← L_size]; omega)
    simp only [spec_ContourBack.l0]
    rw [show ((n + 1 : Nat) : Int) - 1 = (n : Int) by omega, if_pos (by omega), if_pos (by omega), if_pos (by omega), bt_n s n c hc, other_eq]
    simp only [bs]
    rw [sz_mk, sz_one, if_pos (by omega), ba_push, w64 (x := (n : Int) - 1) (by omega) (by omega), ih k _ (by omega) (by omega) (by simp; omega), List.take_add_one, hc]
    simp
theorem implBack_loop (s : ByteArray) (hs : s.size ≤ 1000) (hw : ∀ c ∈ L s, wayC c = true) : ∀ (n k : Nat) (x : List UInt8), n ≤ s.size → n < k → x.length + n = s.size →
    impl_ContourBack.l0 k s (x.map fun c => (c.toNat : Int)) ((n : Int) - 1) = some (⟨(x ++ ((L s).take n).reverse.map ot).toArray⟩, true) := by
  intro n
  induction n with
  | zero =>
    intro k x hn hk hx
    obtain ⟨k, rfl⟩ := round hk
    simp only [impl_ContourBack.l0]
    rw [if_neg (by omega), strOf]
    simp
  | succ n ih =>
    intro k x hn hk hx
    obtain ⟨k, rfl⟩ := round hk
    obtain ⟨c, hc, _⟩ := drop_c (L s) n (by rw [← L_size]; omega)
    simp only [impl_ContourBack.l0]
    rw [show ((n + 1 : Nat) : Int) - 1 = (n : Int) by omega, if_pos (by omega), if_pos (by omega), if_pos (by omega), bt_n s n c hc, turned_eq c (hw c (List.mem_of_getElem? hc))]
    simp only [bs]
    have e : (x.map fun c => (c.toNat : Int)) ++ [((ot c).toNat : Int)] = (x ++ [ot c]).map fun c => (c.toNat : Int) := by simp
    rw [if_pos (by rw [List.length_map]; omega), e, w64 (x := (n : Int) - 1) (by omega) (by omega), ih k _ (by omega) (by omega) (by simp; omega), List.take_add_one, hc]
    simp
/-- The contour of the tones in the opposite order. -/
def backB (s : ByteArray) : ByteArray := ⟨((L s).reverse.map ot).toArray⟩
theorem specBack (s : ByteArray) (hs : s.size ≤ 1100000) (k : Nat) (hk : s.size < k) : spec_ContourBack.f k s = some (if cv s = true then (backB s, true) else (⟨#[]⟩, false)) := by
  unfold spec_ContourBack.f
  rw [specCV s hs k hk]
  simp only [bs]
  by_cases h : cv s = true
  · rw [if_pos h, if_pos h]
    have := specBack_loop s (by have := cv_size s h; omega) s.size k [] (by omega) hk (by simp)
    rw [L_size s, List.take_length, List.nil_append, ← L_size s] at this
    rw [w64 (by omega) (by omega)]
    exact this
  · rw [if_neg h, if_neg h]
theorem implBack (s : ByteArray) (hs : s.size ≤ 1100000) (k : Nat) (hk : s.size < k) : impl_ContourBack.f k s = some (if cv s = true then (backB s, true) else (⟨#[]⟩, false)) := by
  unfold impl_ContourBack.f
  rw [implCV s hs]
  simp only [bs]
  by_cases h : cv s = true
  · rw [if_pos h, if_pos h]
    have := implBack_loop s (by have := cv_size s h; omega) (cv_all s h) s.size k [] (by omega) hk (by simp)
    rw [L_size s, List.take_length, List.nil_append, ← L_size s] at this
    rw [w64 (by omega) (by omega)]
    exact this
  · rw [if_neg h, if_neg h]
/-- The list of a function's first values. -/
def ml (M : Nat) (F : Nat → Int) : List Int := (List.range M).map F
theorem ml_len (M : Nat) (F : Nat → Int) : (ml M F).length = M := by simp [ml]
theorem ml_rd (M : Nat) (F : Nat → Int) (n : Nat) (h : n < M) : rd (ml M F) (n : Int) = F n := by
  unfold rd ml
  rw [Int.toNat_natCast, List.getD_eq_getElem?_getD, List.getElem?_map, List.getElem?_range h]
  rfl
theorem ml_congr (M : Nat) (F G : Nat → Int) (h : ∀ j, j < M → F j = G j) : ml M F = ml M G := by
  unfold ml
  apply List.map_congr_left
  intro j hj
  exact h j (List.mem_range.1 hj)
theorem ml_set (M : Nat) (F : Nat → Int) (n : Nat) (v : Int) : (ml M F).set n v = ml M (fun j => if j = n then v else F j) := by
  apply List.ext_getElem?
  intro j
  unfold ml
  rw [List.getElem?_set]
  by_cases h : n = j
  · subst h
    rw [if_pos rfl]
    by_cases h2 : n < M
    · rw [if_pos (by simpa using h2), List.getElem?_map, List.getElem?_range h2]; simp
    · rw [if_neg (by simpa using h2), List.getElem?_eq_none (by simpa using Nat.le_of_not_lt h2)]
  · rw [if_neg h, List.getElem?_map, List.getElem?_map]
    by_cases h2 : j < M
    · rw [List.getElem?_range h2]; simp [Ne.symm h]
    · rw [List.getElem?_eq_none (by simpa using Nat.le_of_not_lt h2)]; rfl
theorem ml_rep (M : Nat) (v : Int) : List.replicate M v = ml M (fun _ => v) := by
  unfold ml
  apply List.ext_getElem?
  intro j
  rw [List.getElem?_map, List.getElem?_replicate]
  by_cases h2 : j < M
  · rw [if_pos h2, List.getElem?_range h2]; rfl
  · rw [if_neg h2, List.getElem?_eq_none (by simpa using Nat.le_of_not_lt h2)]; rfl
theorem ml_snoc (M : Nat) (F : Nat → Int) : ml M F ++ [F M] = ml (M + 1) F := by
  unfold ml
  rw [List.range_succ, List.map_append]; rfl
/-- The way from a step to another. -/
def wy (a b : Nat) : UInt8 := if b > a then 117 else if b < a then 100 else 115
theorem wy_way (a b : Nat) : wayC (wy a b) = true := by
  unfold wy
  split
  · rfl
  · split <;> rfl
theorem wy_ot (a b : Nat) : wy b a = ot (wy a b) := by
  unfold wy
  rcases Nat.lt_trichotomy a b with h | h | h
  · have e1 : ¬ b < a := by omega
    simp only [gt_iff_lt, h, e1, if_true, if_false]
    rfl
  · subst h
    simp only [gt_iff_lt, Nat.lt_irrefl, if_false]
    rfl
  · have e1 : ¬ a < b := by omega
    simp only [gt_iff_lt, h, e1, if_true, if_false]
    rfl
theorem l3Way_eq (a b : Nat) : spec_l3Way.f (a : Int) (b : Int) = some ⟨#[wy a b]⟩ := by
  unfold spec_l3Way.f wy
  by_cases h : b > a
  · rw [if_pos (by omega), if_pos h]
  · rw [if_neg (by omega), if_neg h]
    by_cases h2 : b < a
    · rw [if_pos (by omega), if_pos h2]
    · rw [if_neg (by omega), if_neg h2]
theorem wayBetween_eq (a b : Nat) : impl_wayBetween.f (a : Int) (b : Int) = some ((wy a b).toNat : Int) := by
  unfold impl_wayBetween.f wy
  by_cases h : b > a
  · rw [if_pos (by omega), if_pos h]; rfl
  · rw [if_neg (by omega), if_neg h]
    by_cases h2 : b < a
    · rw [if_pos (by omega), if_pos h2]; rfl
    · rw [if_neg (by omega), if_neg h2]; rfl
/-- What step a gives to step b by the way c. -/
def term (c : UInt8) (f : Nat → Int) (a b : Nat) : Int := if wy a b = c then f a else 0
def ps (c : UInt8) (f : Nat → Int) : Nat → Nat → Int
  | 0, _ => 0
  | a + 1, b => ps c f a b + term c f a b
def nxt (M : Nat) (c : UInt8) (f : Nat → Int) : Nat → Int := fun b => ps c f M b
def tot (f : Nat → Int) : Nat → Int
  | 0 => 0
  | n + 1 => tot f n + f n
def rows (M : Nat) : List UInt8 → (Nat → Int) → (Nat → Int)
  | [], f => f
  | c :: l, f => rows M l (nxt M c f)
def Bd (f : Nat → Int) (B : Nat) : Prop := ∀ j, 0 ≤ f j ∧ f j ≤ B
theorem term_bd {f : Nat → Int} {B : Nat} (h : Bd f B) (c : UInt8) (a b : Nat) : 0 ≤ term c f a b ∧ term c f a b ≤ B := by
  unfold term
  split
  · exact h a
  · omega
theorem ps_bd {f : Nat → Int} {B : Nat} (h : Bd f B) (c : UInt8) : ∀ a b, 0 ≤ ps c f a b ∧ ps c f a b ≤ ((a * B : Nat) : Int)
  | 0, b => by simp [ps]
  | a + 1, b => by
    have ih := ps_bd h c a b
    have t := term_bd h c a b
    have e : (a + 1) * B = a * B + B := Nat.succ_mul a B
    simp only [ps]
    omega
theorem ps_bd2 {f : Nat → Int} {B : Nat} (h : Bd f B) (hB : B ≤ 37822859361) (c : UInt8) (a b : Nat) (ha : a ≤ 21) : 0 ≤ ps c f a b ∧ ps c f a b ≤ 794280046581 := by
  have := ps_bd h c a b
  have e : a * B ≤ 21 * 37822859361 := Nat.mul_le_mul ha hB
  omega
theorem nxt_bd {f : Nat → Int} {B : Nat} (h : Bd f B) (M : Nat) (hM : M ≤ 21) (c : UInt8) : Bd (nxt M c f) (21 * B) := fun j => by
  have := ps_bd h c M j
  have e : M * B ≤ 21 * B := Nat.mul_le_mul_right B hM
  unfold nxt
  omega
theorem tot_bd {f : Nat → Int} {B : Nat} (h : Bd f B) : ∀ n, 0 ≤ tot f n ∧ tot f n ≤ ((n * B : Nat) : Int)
  | 0 => by simp [tot]
  | n + 1 => by
    have ih := tot_bd h n
    have t := h n
    have e : (n + 1) * B = n * B + B := Nat.succ_mul n B
    simp only [tot]
    omega
theorem tot_bd2 {f : Nat → Int} {B : Nat} (h : Bd f B) (hB : B ≤ 37822859361) (n : Nat) (ha : n ≤ 21) : 0 ≤ tot f n ∧ tot f n ≤ 794280046581 := by
  have := tot_bd h n
  have e : n * B ≤ 21 * 37822859361 := Nat.mul_le_mul ha hB
  omega
theorem ext_one (s : ByteArray) (n : Nat) (c : UInt8) (h : (L s)[n]? = some c) : (s.extract n (n + 1)).toList = [c] := by
  rw [toList_L]
  show (s.extract n (n + 1)).data.toList = [c]
  rw [Lib.extract_data]
  obtain ⟨h1, h2⟩ := List.getElem?_eq_some_iff.1 h
  show ((L s).drop n).take (n + 1 - n) = [c]
  rw [show n + 1 - n = 1 by omega, List.drop_eq_getElem_cons h1, h2]
  rfl
theorem one_list (c : UInt8) : (⟨#[c]⟩ : ByteArray).toList = [c] := by rw [toList_L]
section
set_option linter.unusedSectionVars false
variable (s : ByteArray) (hs : s.size ≤ 1000) (M : Nat) (hM : M ≤ 21) (c : UInt8) (i : Nat) (hc : (L s)[i]? = some c) (f : Nat → Int) (B : Nat) (hf : Bd f B) (hB : B ≤ 37822859361)
include hs hM hc hf hB
theorem spec_l3 (a : Nat) (ha : a < M) : ∀ (d k b : Nat), b + d = M →
    spec_ContourMany.l3 (k + d + 1) s ((M : Int) - 1) (ml M f) (i : Int) (ml M (fun j => ps c f a j + if j < b then term c f a j else 0)) (a : Int) (b : Int) =
    spec_ContourMany.l2 k s ((M : Int) - 1) (ml M f) (i : Int) (ml M (fun j => ps c f (a + 1) j)) ((a + 1 : Nat) : Int) := by
  have hi : i < s.size := by rw [L_size]; exact (List.getElem?_eq_some_iff.1 hc).1
  intro d
  induction d with
  | zero =>
    intro k b hb
    simp only [spec_ContourMany.l3]
    rw [if_neg (by omega), w_succ (by omega)]
    congr 1
    apply ml_congr
    intro j hj
    rw [if_pos (by omega)]
    rfl
  | succ d ih =>
    intro k b hb
    obtain ⟨q, hq⟩ : ∃ q, k + d + 1 = q := ⟨_, rfl⟩
    rw [show k + (d + 1) + 1 = q + 1 by omega]
    simp only [spec_ContourMany.l3]
    subst hq
    rw [if_pos (by omega), l3Way_eq]
    simp only [bs]
    rw [if_pos (by omega), w_succ (n := i) (by omega), if_pos (by omega), if_pos (by omega), Int.toNat_natCast, Int.toNat_natCast, ext_one s i c hc, one_list]
    by_cases h : wy a b = c
    · rw [if_pos (by rw [h]), if_pos (by omega), if_pos (by rw [ml_len]; omega), if_pos (by omega), if_pos (by rw [ml_len]; omega), Int.toNat_natCast, ml_rd _ _ _ (by omega), ml_rd _ _ _ (by omega), w_succ (n := b) (by omega), ml_set]
      rw [← ih k (b + 1) (by omega)]
      congr 1
      apply ml_congr
      intro j hj
      have p := ps_bd2 hf hB c a b (by omega)
      have t := hf a
      by_cases hj2 : j = b
      · subst hj2
        rw [if_pos rfl, if_neg (by omega), if_pos (by omega), w64 (by omega) (by omega)]
        unfold term
        rw [if_pos h]
        omega
      · rw [if_neg hj2]
        by_cases h3 : j < b
        · rw [if_pos h3, if_pos (by omega)]
        · rw [if_neg h3, if_neg (by omega)]
    · rw [if_neg (by simpa using h), w_succ (n := b) (by omega), ← ih k (b + 1) (by omega)]
      congr 1
      apply ml_congr
      intro j hj
      by_cases hj2 : j = b
      · subst hj2
        rw [if_neg (by omega), if_pos (by omega)]
        unfold term
        rw [if_neg h]
      · by_cases h3 : j < b
        · rw [if_pos h3, if_pos (by omega)]
        · rw [if_neg h3, if_neg (by omega)]
theorem spec_l2 : ∀ (d k a : Nat), a + d = M →
    spec_ContourMany.l2 (k + d * (M + 2) + 1) s ((M : Int) - 1) (ml M f) (i : Int) (ml M (fun j => ps c f a j)) (a : Int) =
    spec_ContourMany.l1 k s ((M : Int) - 1) (ml M (nxt M c f)) ((i + 1 : Nat) : Int) := by
  have hi : i < s.size := by rw [L_size]; exact (List.getElem?_eq_some_iff.1 hc).1
  intro d
  induction d with
  | zero =>
    intro k a ha
    rw [show k + 0 * (M + 2) + 1 = k + 1 by omega]
    simp only [spec_ContourMany.l2]
    rw [if_neg (by omega), w_succ (by omega)]
    obtain rfl : a = M := by omega
    rfl
  | succ d ih =>
    intro k a ha
    rw [show k + (d + 1) * (M + 2) + 1 = (k + d * (M + 2) + 1 + M + 1) + 1 by rw [Nat.succ_mul]; omega]
    simp only [spec_ContourMany.l2]
    rw [if_pos (by omega)]
    have := spec_l3 s hs M hM c i hc f B hf hB a (by omega) M (k + d * (M + 2) + 1) 0 (by omega)
    rw [show (ml M (fun j => ps c f a j + if j < 0 then term c f a j else 0)) = ml M (fun j => ps c f a j) from ml_congr _ _ _ (fun j _ => by simp), show ((0 : Nat) : Int) = 0 from rfl] at this
    rw [this, ih k (a + 1) (by omega)]
theorem impl_l3 (b : Nat) (hb : b < M) : ∀ (d k a : Nat), a + d = M →
    impl_ContourMany.l3 (k + d + 1) s ((M : Int) - 1) (ml M f) (i : Int) (ml M (fun j => if j < b then ps c f M j else if j = b then ps c f a j else 0)) (b : Int) (s.size : Int) (i : Int) (M : Int) (b : Int) (ml M f) (M : Int) (a : Int) =
    impl_ContourMany.l2 k s ((M : Int) - 1) (ml M f) (i : Int) (ml M (fun j => if j < b + 1 then ps c f M j else 0)) (s.size : Int) (i : Int) (M : Int) ((b + 1 : Nat) : Int) := by
  have hi : i < s.size := by rw [L_size]; exact (List.getElem?_eq_some_iff.1 hc).1
  intro d
  induction d with
  | zero =>
    intro k a ha
    simp only [impl_ContourMany.l3]
    rw [if_neg (by omega), w_succ (by omega)]
    obtain rfl : a = M := by omega
    congr 1
    apply ml_congr
    intro j hj
    by_cases h : j < b
    · rw [if_pos h, if_pos (by omega)]
    · rw [if_neg h]
      by_cases h2 : j = b
      · rw [if_pos h2, if_pos (by omega)]
      · rw [if_neg h2, if_neg (by omega)]
  | succ d ih =>
    intro k a ha
    obtain ⟨q, hq⟩ : ∃ q, k + d + 1 = q := ⟨_, rfl⟩
    rw [show k + (d + 1) + 1 = q + 1 by omega]
    simp only [impl_ContourMany.l3]
    subst hq
    rw [if_pos (by omega), if_pos (by omega), if_pos (by rw [ml_len]; omega), wayBetween_eq]
    simp only [bs]
    rw [if_pos (by omega), if_pos (by omega), bt_n s i c hc]
    by_cases h : wy a b = c
    · rw [if_pos (by rw [h]), if_pos (by omega), if_pos (by rw [ml_len]; omega), Int.toNat_natCast, ml_rd _ _ _ (by omega), ml_rd _ _ _ (by omega), w_succ (n := a) (by omega), ml_set, ← ih k (a + 1) (by omega)]
      congr 1
      apply ml_congr
      intro j hj
      have p := ps_bd2 hf hB c a b (by omega)
      have t := hf a
      by_cases hj2 : j = b
      · subst hj2
        rw [if_pos rfl, if_neg (by omega), if_pos rfl, if_neg (by omega), if_pos rfl, w64 (by omega) (by omega)]
        simp only [ps]
        unfold term
        rw [if_pos h]
      · rw [if_neg hj2, if_neg hj2, if_neg hj2]
    · rw [if_neg (fun e => h (UInt8.toNat_inj.1 (by omega))), w_succ (n := a) (by omega), ← ih k (a + 1) (by omega)]
      congr 1
      apply ml_congr
      intro j hj
      by_cases hj2 : j = b
      · subst hj2
        rw [if_neg (by omega), if_pos rfl, if_neg (by omega), if_pos rfl]
        simp only [ps]
        unfold term
        rw [if_neg h]
        omega
      · rw [if_neg hj2, if_neg hj2]
theorem impl_l2 : ∀ (d k b : Nat), b + d = M →
    impl_ContourMany.l2 (k + d * (M + 2) + 1) s ((M : Int) - 1) (ml M f) (i : Int) (ml M (fun j => if j < b then ps c f M j else 0)) (s.size : Int) (i : Int) (M : Int) (b : Int) =
    impl_ContourMany.l1 k s ((M : Int) - 1) (ml M (nxt M c f)) (s.size : Int) ((i + 1 : Nat) : Int) := by
  have hi : i < s.size := by rw [L_size]; exact (List.getElem?_eq_some_iff.1 hc).1
  intro d
  induction d with
  | zero =>
    intro k b hb
    rw [show k + 0 * (M + 2) + 1 = k + 1 by omega]
    simp only [impl_ContourMany.l2]
    rw [if_neg (by omega), w_succ (by omega)]
    congr 1
    apply ml_congr
    intro j hj
    rw [if_pos (by omega)]
    rfl
  | succ d ih =>
    intro k b hb
    rw [show k + (d + 1) * (M + 2) + 1 = (k + d * (M + 2) + 1 + M + 1) + 1 by rw [Nat.succ_mul]; omega]
    simp only [impl_ContourMany.l2]
    rw [if_pos (by omega), ml_len]
    have := impl_l3 s hs M hM c i hc f B hf hB b (by omega) M (k + d * (M + 2) + 1) 0 (by omega)
    rw [show (ml M (fun j => if j < b then ps c f M j else if j = b then ps c f 0 j else 0)) = ml M (fun j => if j < b then ps c f M j else 0) from ml_congr _ _ _ (fun j _ => by simp [ps]), show ((0 : Nat) : Int) = 0 from rfl] at this
    rw [this, ih k (b + 1) (by omega)]
end
theorem spec_l4 (M : Nat) (hM : M ≤ 21) (f : Nat → Int) (B : Nat) (hf : Bd f B) (hB : B ≤ 37822859361) : ∀ (d k a : Nat), a + d = M →
    spec_ContourMany.l4 (k + d + 1) ((M : Int) - 1) (ml M f) (tot f a) (a : Int) = some (tot f M) := by
  intro d
  induction d with
  | zero =>
    intro k a ha
    simp only [spec_ContourMany.l4]
    rw [if_neg (by omega), show a = M by omega]
  | succ d ih =>
    intro k a ha
    obtain ⟨q, hq⟩ : ∃ q, k + d + 1 = q := ⟨_, rfl⟩
    rw [show k + (d + 1) + 1 = q + 1 by omega]
    have t := tot_bd2 hf hB a (by omega)
    have t2 := hf a
    simp only [spec_ContourMany.l4]
    subst hq
    rw [if_pos (by omega), if_pos (by omega), if_pos (by rw [ml_len]; omega), ml_rd _ _ _ (by omega), w64 (by omega) (by omega), w_succ (by omega)]
    exact ih k (a + 1) (by omega)
theorem impl_l4 (M : Nat) (hM : M ≤ 21) (f : Nat → Int) (B : Nat) (hf : Bd f B) (hB : B ≤ 37822859361) : ∀ (d k a : Nat), a + d = M →
    impl_ContourMany.l4 (k + d + 1) (tot f a) (ml M f) (M : Int) (a : Int) = some (tot f M) := by
  intro d
  induction d with
  | zero =>
    intro k a ha
    simp only [impl_ContourMany.l4]
    rw [if_neg (by omega), show a = M by omega]
  | succ d ih =>
    intro k a ha
    obtain ⟨q, hq⟩ : ∃ q, k + d + 1 = q := ⟨_, rfl⟩
    rw [show k + (d + 1) + 1 = q + 1 by omega]
    have t := tot_bd2 hf hB a (by omega)
    have t2 := hf a
    simp only [impl_ContourMany.l4]
    subst hq
    rw [if_pos (by omega), if_pos (by omega), if_pos (by rw [ml_len]; omega), ml_rd _ _ _ (by omega), w64 (by omega) (by omega), w_succ (by omega)]
    exact ih k (a + 1) (by omega)
/-- The rounds that one way takes. -/
def rnd (M : Nat) : Nat := M * (M + 2) + 2
theorem pow_le (B d : Nat) : B ≤ B * 21 ^ d := Nat.le_mul_of_pos_right _ (Nat.pow_pos (by omega))
theorem pow_step (B d : Nat) : 21 * B * 21 ^ d = B * 21 ^ (d + 1) := by rw [Nat.pow_succ, Nat.mul_comm 21 B, Nat.mul_assoc, Nat.mul_comm 21 (21 ^ d)]
theorem spec_l1 (s : ByteArray) (hs : s.size ≤ 1000) (M : Nat) (h1 : 1 ≤ M) (hM : M ≤ 21) : ∀ (d k i : Nat) (f : Nat → Int) (B : Nat), i + d = s.size → Bd f B → B * 21 ^ d ≤ 37822859361 →
    spec_ContourMany.l1 (k + M + 1 + d * rnd M + 1) s ((M : Int) - 1) (ml M f) (i : Int) = some (tot (rows M ((L s).drop i) f) M) := by
  intro d
  induction d with
  | zero =>
    intro k i f B hi hf hB
    rw [show k + M + 1 + 0 * rnd M + 1 = (k + M + 1) + 1 by omega]
    simp only [spec_ContourMany.l1]
    rw [if_neg (by omega), show (L s).drop i = [] from List.drop_eq_nil_of_le (by rw [← L_size]; omega)]
    have := spec_l4 M hM f B hf (by simpa using hB) M k 0 (by omega)
    exact this
  | succ d ih =>
    intro k i f B hi hf hB
    obtain ⟨c, hc, hd⟩ := drop_c (L s) i (by rw [← L_size]; omega)
    have hB1 := pow_le B (d + 1)
    rw [show k + M + 1 + (d + 1) * rnd M + 1 = (k + M + 1 + d * rnd M + 1 + M * (M + 2) + 1) + 1 by rw [Nat.succ_mul]; unfold rnd; omega]
    simp only [spec_ContourMany.l1]
    have hw : wrap64 ((M : Int) - 1 + 1) = (M : Int) := by rw [w64 (by omega) (by omega)]; omega
    rw [if_pos (by omega), hw, if_pos (by omega), Int.toNat_natCast, if_pos (by omega), ml_rep]
    have := spec_l2 s hs M hM c i hc f B hf (by omega) M (k + M + 1 + d * rnd M + 1) 0 (by omega)
    rw [show (ml M (fun j => ps c f 0 j)) = ml M (fun _ => 0) from rfl, show ((0 : Nat) : Int) = 0 from rfl] at this
    rw [this, ih k (i + 1) (nxt M c f) (21 * B) (by omega) (nxt_bd hf M hM c) (by rw [pow_step]; exact hB), hd]
    rfl
theorem impl_l1 (s : ByteArray) (hs : s.size ≤ 1000) (M : Nat) (h1 : 1 ≤ M) (hM : M ≤ 21) : ∀ (d k i : Nat) (f : Nat → Int) (B : Nat), i + d = s.size → Bd f B → B * 21 ^ d ≤ 37822859361 →
    impl_ContourMany.l1 (k + M + 1 + d * rnd M + 1) s ((M : Int) - 1) (ml M f) (s.size : Int) (i : Int) = some (tot (rows M ((L s).drop i) f) M) := by
  intro d
  induction d with
  | zero =>
    intro k i f B hi hf hB
    rw [show k + M + 1 + 0 * rnd M + 1 = (k + M + 1) + 1 by omega]
    simp only [impl_ContourMany.l1]
    rw [if_neg (by omega), show (L s).drop i = [] from List.drop_eq_nil_of_le (by rw [← L_size]; omega), ml_len]
    have := impl_l4 M hM f B hf (by simpa using hB) M k 0 (by omega)
    exact this
  | succ d ih =>
    intro k i f B hi hf hB
    obtain ⟨c, hc, hd⟩ := drop_c (L s) i (by rw [← L_size]; omega)
    have hB1 := pow_le B (d + 1)
    rw [show k + M + 1 + (d + 1) * rnd M + 1 = (k + M + 1 + d * rnd M + 1 + M * (M + 2) + 1) + 1 by rw [Nat.succ_mul]; unfold rnd; omega]
    simp only [impl_ContourMany.l1]
    have hw : wrap64 ((M : Int) - 1 + 1) = (M : Int) := by rw [w64 (by omega) (by omega)]; omega
    rw [if_pos (by omega), hw, if_pos (by omega), Int.toNat_natCast, if_pos (by omega), ml_rep]
    simp only [bs]
    rw [ml_len]
    have := impl_l2 s hs M hM c i hc f B hf (by omega) M (k + M + 1 + d * rnd M + 1) 0 (by omega)
    rw [show (ml M (fun j => if j < 0 then ps c f M j else 0)) = ml M (fun _ => 0) from ml_congr _ _ _ (fun j _ => by simp), show ((0 : Nat) : Int) = 0 from rfl] at this
    rw [this, ih k (i + 1) (nxt M c f) (21 * B) (by omega) (nxt_bd hf M hM c) (by rw [pow_step]; exact hB), hd]
    rfl
theorem spec_l0 (s : ByteArray) (M : Nat) (hM : M ≤ 21) : ∀ (d k a : Nat), a + d = M →
    spec_ContourMany.l0 (k + d + 1) s ((M : Int) - 1) (ml a (fun _ => 1)) (a : Int) = spec_ContourMany.l1 k s ((M : Int) - 1) (ml M (fun _ => 1)) 0 := by
  intro d
  induction d with
  | zero =>
    intro k a ha
    simp only [spec_ContourMany.l0]
    rw [if_neg (by omega), show a = M by omega]
  | succ d ih =>
    intro k a ha
    obtain ⟨q, hq⟩ : ∃ q, k + d + 1 = q := ⟨_, rfl⟩
    rw [show k + (d + 1) + 1 = q + 1 by omega]
    simp only [spec_ContourMany.l0]
    subst hq
    rw [if_pos (by omega), if_pos (by rw [ml_len]; omega), w_succ (by omega), ml_snoc a (fun _ => 1)]
    exact ih k (a + 1) (by omega)
theorem impl_l0 (s : ByteArray) (M : Nat) (hM : M ≤ 21) : ∀ (d k a : Nat), a + d = M →
    impl_ContourMany.l0 (k + d + 1) s ((M : Int) - 1) (ml M (fun j => if j < a then 1 else 0)) (M : Int) (a : Int) = impl_ContourMany.l1 k s ((M : Int) - 1) (ml M (fun _ => 1)) (s.size : Int) 0 := by
  intro d
  induction d with
  | zero =>
    intro k a ha
    simp only [impl_ContourMany.l0]
    rw [if_neg (by omega), ml_congr M _ (fun _ => 1) (fun j hj => by rw [if_pos (by omega)])]
  | succ d ih =>
    intro k a ha
    obtain ⟨q, hq⟩ : ∃ q, k + d + 1 = q := ⟨_, rfl⟩
    rw [show k + (d + 1) + 1 = q + 1 by omega]
    simp only [impl_ContourMany.l0]
    subst hq
    rw [if_pos (by omega), if_pos (by omega), if_pos (by rw [ml_len]; omega), w_succ (by omega), Int.toNat_natCast, ml_set, ← ih k (a + 1) (by omega)]
    congr 1
    apply ml_congr
    intro j hj
    by_cases h : j = a
    · rw [if_pos h, if_pos (by omega)]
    · rw [if_neg h]
      by_cases h2 : j < a
      · rw [if_pos h2, if_pos (by omega)]
      · rw [if_neg h2, if_neg (by omega)]
/-- The number of lists of steps below M with a contour. -/
def mny (l : List UInt8) (M : Nat) : Int := tot (rows M l (fun _ => 1)) M
/-- What ContourMany comes to. -/
def manyV (s : ByteArray) (m : Int) : Int := if cv s = true ∧ s.size ≤ 8 ∧ 0 ≤ m ∧ m ≤ 20 then mny (L s) (m + 1).toNat else -1
theorem one_bd : Bd (fun _ => 1) 1 := fun _ => ⟨by show (0 : Int) ≤ 1; omega, by show (1 : Int) ≤ ((1 : Nat) : Int); omega⟩
theorem rnd_le (M : Nat) (hM : M ≤ 21) (d : Nat) (hd : d ≤ 8) : d * rnd M ≤ 8 * 485 := by
  apply Nat.mul_le_mul hd
  have : M * (M + 2) ≤ 21 * 23 := Nat.mul_le_mul hM (by omega)
  unfold rnd
  omega
theorem pow8 (d : Nat) (hd : d ≤ 8) : 1 * 21 ^ d ≤ 37822859361 := by
  have : 21 ^ d ≤ 21 ^ 8 := Nat.pow_le_pow_right (by omega) hd
  rw [show (21 : Nat) ^ 8 = 37822859361 by decide] at this
  omega
theorem implMany (s : ByteArray) (hs : s.size ≤ 1100000) (m : Int) (k : Nat) (hk : s.size + 6000 ≤ k) : impl_ContourMany.f k s m = some (manyV s m) := by
  obtain ⟨k, rfl⟩ : ∃ j, k = j + 1 := ⟨k - 1, by omega⟩
  have bad : impl_ContourMany.j0 (k + 1) s m true = some (-1) := by simp only [impl_ContourMany.j0]; rw [if_pos trivial]
  unfold impl_ContourMany.f manyV
  rw [implCV s hs]
  simp only [bs]
  by_cases h : cv s = true
  · rw [if_pos h]
    by_cases h2 : (s.size : Int) > 8
    · rw [if_pos h2, bad, if_neg (fun e => by omega)]
    · rw [if_neg h2]
      by_cases h3 : m < 0
      · rw [if_pos h3, bad, if_neg (fun e => by omega)]
      · rw [if_neg h3]
        by_cases h4 : m > 20
        · rw [decide_eq_true h4, bad, if_neg (fun e => by omega)]
        · rw [decide_eq_false h4, if_pos ⟨h, by omega, by omega, by omega⟩]
          obtain ⟨M, hMm⟩ : ∃ M : Nat, m = (M : Int) - 1 := ⟨(m + 1).toNat, by omega⟩
          subst hMm
          have hw : wrap64 ((M : Int) - 1 + 1) = (M : Int) := by rw [w64 (by omega) (by omega)]; omega
          have he : ((M : Int) - 1 + 1).toNat = M := by omega
          simp only [impl_ContourMany.j0]
          rw [if_neg (by simp), hw, if_pos (by omega), Int.toNat_natCast, if_pos (by omega), he, ml_rep]
          simp only [bs]
          rw [ml_len]
          have hr := rnd_le M (by omega) s.size (by omega)
          have a := impl_l0 s M (by omega) M (k - M - 1) 0 (by omega)
          rw [show k - M - 1 + M + 1 = k by omega, show (ml M (fun j => if j < 0 then (1 : Int) else 0)) = ml M (fun _ => 0) from ml_congr _ _ _ (fun j _ => by simp), show ((0 : Nat) : Int) = 0 from rfl] at a
          rw [a]
          have b := impl_l1 s (by omega) M (by omega) (by omega) s.size (k - M - 1 - M - 2 - s.size * rnd M) 0 (fun _ => 1) 1 (by omega) one_bd (pow8 _ (by omega))
          rw [show k - M - 1 - M - 2 - s.size * rnd M + M + 1 + s.size * rnd M + 1 = k - M - 1 by omega, show ((0 : Nat) : Int) = 0 from rfl, List.drop_zero] at b
          exact b
  · rw [if_neg h, bad, if_neg (fun e => h e.1)]
theorem specMany (s : ByteArray) (hs : s.size ≤ 1100000) (m : Int) (k : Nat) (hk : s.size + 6000 ≤ k) : spec_ContourMany.f k s m = some (manyV s m) := by
  obtain ⟨k, rfl⟩ : ∃ j, k = j + 1 := ⟨k - 1, by omega⟩
  have bad : spec_ContourMany.j0 (k + 1) s m true = some (-1) := by simp only [spec_ContourMany.j0]; rw [if_pos trivial]
  unfold spec_ContourMany.f manyV spec_l6In.f
  rw [specCV s hs _ (by omega)]
  simp only [bs]
  by_cases h : cv s = true
  · rw [if_pos h]
    by_cases h2 : (s.size : Int) > 8
    · rw [if_pos h2, bad, if_neg (fun e => by omega)]
    · rw [if_neg h2]
      by_cases h3 : m ≥ 0
      · rw [if_pos h3]
        simp only [bs]
        by_cases h4 : m ≤ 20
        · rw [decide_eq_true h4, if_pos ⟨h, by omega, by omega, by omega⟩]
          obtain ⟨M, hMm⟩ : ∃ M : Nat, m = (M : Int) - 1 := ⟨(m + 1).toNat, by omega⟩
          subst hMm
          have he : ((M : Int) - 1 + 1).toNat = M := by omega
          simp only [spec_ContourMany.j0]
          rw [if_neg (by simp), he]
          have hr := rnd_le M (by omega) s.size (by omega)
          have a := spec_l0 s M (by omega) M (k - M - 1) 0 (by omega)
          rw [show k - M - 1 + M + 1 = k by omega, show (ml 0 (fun _ => (1 : Int))) = [] from rfl, show ((0 : Nat) : Int) = 0 from rfl] at a
          rw [a]
          have b := spec_l1 s (by omega) M (by omega) (by omega) s.size (k - M - 1 - M - 2 - s.size * rnd M) 0 (fun _ => 1) 1 (by omega) one_bd (pow8 _ (by omega))
          rw [show k - M - 1 - M - 2 - s.size * rnd M + M + 1 + s.size * rnd M + 1 = k - M - 1 by omega, show ((0 : Nat) : Int) = 0 from rfl, List.drop_zero] at b
          exact b
        · rw [decide_eq_false h4]
          show spec_ContourMany.j0 (k + 1) s m true = _
          rw [bad, if_neg (fun e => h4 e.2.2.2)]
      · rw [if_neg h3]
        simp only [bs]
        show spec_ContourMany.j0 (k + 1) s m true = _
        rw [bad, if_neg (fun e => h3 e.2.2.1)]
  · rw [if_neg h, bad, if_neg (fun e => h e.1)]
theorem tot_congr (f g : Nat → Int) : ∀ n, (∀ j, j < n → f j = g j) → tot f n = tot g n
  | 0, _ => rfl
  | n + 1, h => by
    simp only [tot]
    rw [tot_congr f g n (fun j hj => h j (by omega)), h n (by omega)]
theorem tot_add (f g : Nat → Int) : ∀ n, tot (fun j => f j + g j) n = tot f n + tot g n
  | 0 => rfl
  | n + 1 => by
    simp only [tot]
    rw [tot_add f g n]
    omega
theorem tot_mul (f : Nat → Int) (c : Int) : ∀ n, tot f n * c = tot (fun j => f j * c) n
  | 0 => by simp [tot]
  | n + 1 => by
    simp only [tot]
    rw [Int.add_mul, tot_mul f c n]
theorem tot_mulr (f : Nat → Int) (c : Int) : ∀ n, c * tot f n = tot (fun j => c * f j) n
  | 0 => by simp [tot]
  | n + 1 => by
    simp only [tot]
    rw [Int.mul_add, tot_mulr f c n]
theorem tot_zero : ∀ n, tot (fun _ => 0) n = 0
  | 0 => rfl
  | n + 1 => by simp only [tot]; rw [tot_zero n]; rfl
theorem tot_const (c : Int) : ∀ n : Nat, tot (fun _ => c) n = c * n
  | 0 => by simp [tot]
  | n + 1 => by
    simp only [tot]
    rw [tot_const c n, show ((n + 1 : Nat) : Int) = (n : Int) + 1 by omega, Int.mul_add, Int.mul_one]
theorem tot_swap (h : Nat → Nat → Int) (m : Nat) : ∀ n, tot (fun j => tot (fun a => h a j) m) n = tot (fun a => tot (fun j => h a j) n) m
  | 0 => by
    show (0 : Int) = tot (fun _ => 0) m
    rw [tot_zero]
  | n + 1 => by
    simp only [tot]
    rw [tot_swap h m n, ← tot_add]
theorem tot_first (g : Nat → Int) : ∀ n, tot g (n + 1) = g 0 + tot (fun a => g (a + 1)) n
  | 0 => by simp [tot]
  | n + 1 => by
    rw [show tot g (n + 1 + 1) = tot g (n + 1) + g (n + 1) from rfl, tot_first g n]
    simp only [tot]
    omega
theorem tot_rev : ∀ (n : Nat) (g : Nat → Int), tot (fun a => g (n - 1 - a)) n = tot g n
  | 0, _ => rfl
  | n + 1, g => by
    have ih := tot_rev n (fun a => g (a + 1))
    rw [tot_first g n, ← ih]
    simp only [tot]
    rw [show n + 1 - 1 - n = 0 by omega, Int.add_comm]
    congr 1
    apply tot_congr
    intro j hj
    rw [show n + 1 - 1 - j = n - 1 - j + 1 by omega]
theorem ps_tot (c : UInt8) (f : Nat → Int) (b : Nat) : ∀ a, ps c f a b = tot (fun a => term c f a b) a
  | 0 => rfl
  | a + 1 => by simp only [ps, tot]; rw [ps_tot c f b a]
theorem wy_flip (M a j : Nat) (ha : a < M) (hj : j < M) : wy (M - 1 - a) (M - 1 - j) = ot (wy a j) := by
  rw [← wy_ot]
  unfold wy
  rcases Nat.lt_trichotomy a j with h | h | h
  · rw [if_neg (by omega), if_pos (by omega), if_neg (by omega), if_pos (by omega)]
  · rw [if_neg (by omega), if_neg (by omega), if_neg (by omega), if_neg (by omega)]
  · rw [if_pos (by omega), if_pos (by omega)]
theorem term_flip (M : Nat) (c : UInt8) (hc : wayC c = true) (f f' : Nat → Int) (hf : ∀ j, j < M → f' j = f (M - 1 - j)) (a j : Nat) (ha : a < M) (hj : j < M) :
    term (ot c) f' a j = term c f (M - 1 - a) (M - 1 - j) := by
  unfold term
  rw [wy_flip M a j ha hj]
  by_cases h : wy a j = ot c
  · rw [if_pos h, if_pos (by rw [h, ot_ot c hc]), hf a ha]
  · rw [if_neg h, if_neg (fun e => h (by rw [← e, ot_ot _ (wy_way a j)]))]
theorem nxt_flip (M : Nat) (c : UInt8) (hc : wayC c = true) (f f' : Nat → Int) (hf : ∀ j, j < M → f' j = f (M - 1 - j)) (j : Nat) (hj : j < M) :
    nxt M (ot c) f' j = nxt M c f (M - 1 - j) := by
  unfold nxt
  rw [ps_tot, ps_tot, ← tot_rev M (fun a => term c f a (M - 1 - j))]
  apply tot_congr
  intro a ha
  exact term_flip M c hc f f' hf a j ha hj
theorem rows_flip (M : Nat) : ∀ (l : List UInt8) (_ : ∀ c ∈ l, wayC c = true) (f f' : Nat → Int) (_ : ∀ j, j < M → f' j = f (M - 1 - j)) (j : Nat), j < M → rows M (l.map ot) f' j = rows M l f (M - 1 - j)
  | [], _, f, f', hf, j, hj => hf j hj
  | c :: l, hw, f, f', hf, j, hj =>
    rows_flip M l (fun x hx => hw x (List.mem_cons_of_mem _ hx)) (nxt M c f) (nxt M (ot c) f') (nxt_flip M c (hw c List.mem_cons_self) f f' hf) j hj
theorem mny_turn (l : List UInt8) (hw : ∀ c ∈ l, wayC c = true) (M : Nat) : mny (l.map ot) M = mny l M := by
  unfold mny
  rw [← tot_rev M (rows M l fun _ => 1)]
  apply tot_congr
  intro j hj
  exact rows_flip M l hw (fun _ => 1) (fun _ => 1) (fun _ _ => rfl) j hj
def dot (M : Nat) (f g : Nat → Int) : Int := tot (fun j => f j * g j) M
theorem term_adj (c : UInt8) (hc : wayC c = true) (f g : Nat → Int) (a j : Nat) : term c f a j * g j = f a * term (ot c) g j a := by
  unfold term
  rw [wy_ot a j]
  by_cases h : wy a j = c
  · rw [if_pos h, if_pos (by rw [h])]
  · rw [if_neg h, if_neg (fun e => h (by rw [← ot_ot c hc, ← e, ot_ot _ (wy_way a j)])), Int.zero_mul, Int.mul_zero]
theorem nxt_adj (M : Nat) (c : UInt8) (hc : wayC c = true) (f g : Nat → Int) : dot M (nxt M c f) g = dot M f (nxt M (ot c) g) := by
  unfold dot nxt
  rw [tot_congr (fun j => ps c f M j * g j) (fun j => tot (fun a => term c f a j * g j) M) M (fun j _ => by rw [ps_tot, tot_mul]), tot_swap]
  apply tot_congr
  intro a ha
  rw [ps_tot, tot_mulr]
  apply tot_congr
  intro j hj
  exact term_adj c hc f g a j
theorem rows_snoc (M : Nat) (c : UInt8) : ∀ (l : List UInt8) (f : Nat → Int), rows M (l ++ [c]) f = nxt M c (rows M l f)
  | [], _ => rfl
  | a :: l, f => rows_snoc M c l (nxt M a f)
theorem rows_adj (M : Nat) (g : Nat → Int) : ∀ (l : List UInt8) (_ : ∀ c ∈ l, wayC c = true) (f : Nat → Int), dot M (rows M l f) g = dot M f (rows M (l.reverse.map ot) g)
  | [], _, _ => rfl
  | c :: l, hw, f => by
    have ih := rows_adj M g l (fun x hx => hw x (List.mem_cons_of_mem _ hx)) (nxt M c f)
    rw [List.reverse_cons, List.map_append, show [c].map ot = [ot c] from rfl, rows_snoc, ← nxt_adj M c (hw c List.mem_cons_self)]
    exact ih
theorem mny_back (l : List UInt8) (hw : ∀ c ∈ l, wayC c = true) (M : Nat) : mny (l.reverse.map ot) M = mny l M := by
  have h := rows_adj M (fun _ => 1) l hw (fun _ => 1)
  unfold dot at h
  unfold mny
  rw [tot_congr (rows M (l.reverse.map ot) fun _ => 1) (fun j => 1 * rows M (l.reverse.map ot) (fun _ => 1) j) M (fun j _ => by omega), ← h]
  exact tot_congr _ _ M (fun j _ => Int.mul_one _)
theorem ps_uds (f : Nat → Int) (b : Nat) : ∀ a, ps 117 f a b + ps 100 f a b + ps 115 f a b = tot f a
  | 0 => rfl
  | a + 1 => by
    have ih := ps_uds f b a
    simp only [ps, tot]
    have t : term 117 f a b + term 100 f a b + term 115 f a b = f a := by
      unfold term
      rcases wayC_cases _ (wy_way a b) with h | h | h
      · rw [if_pos h, if_neg (by rw [h]; decide), if_neg (by rw [h]; decide)]; omega
      · rw [if_neg (by rw [h]; decide), if_pos h, if_neg (by rw [h]; decide)]; omega
      · rw [if_neg (by rw [h]; decide), if_neg (by rw [h]; decide), if_pos h]; omega
    omega
theorem mny_uds (l : List UInt8) (M : Nat) : mny (l ++ [117]) M + mny (l ++ [100]) M + mny (l ++ [115]) M = mny l M * M := by
  unfold mny
  rw [rows_snoc, rows_snoc, rows_snoc, ← tot_add, ← tot_add, ← tot_const]
  apply tot_congr
  intro j _
  exact ps_uds _ j M
theorem rows_bd (M : Nat) (hM : M ≤ 21) : ∀ (l : List UInt8) (f : Nat → Int) (B : Nat), Bd f B → Bd (rows M l f) (B * 21 ^ l.length)
  | [], f, B, h => by
    show Bd f (B * 21 ^ 0)
    rw [Nat.pow_zero, Nat.mul_one]; exact h
  | c :: l, f, B, h => by
    have := rows_bd M hM l (nxt M c f) (21 * B) (nxt_bd h M hM c)
    rw [pow_step] at this
    exact this
theorem mny_bd (l : List UInt8) (hl : l.length ≤ 8) (M : Nat) (hM : M ≤ 21) : 0 ≤ mny l M ∧ mny l M ≤ 794280046581 :=
  tot_bd2 (rows_bd M hM l _ 1 one_bd) (pow8 _ hl) M hM
def NN (f : Nat → Int) : Prop := ∀ j, 0 ≤ f j
theorem term_nn {f : Nat → Int} (h : NN f) (c : UInt8) (a b : Nat) : 0 ≤ term c f a b := by
  unfold term
  split
  · exact h a
  · omega
theorem ps_nn {f : Nat → Int} (h : NN f) (c : UInt8) (b : Nat) : ∀ a, 0 ≤ ps c f a b
  | 0 => by simp [ps]
  | a + 1 => by
    have := ps_nn h c b a
    have := term_nn h c a b
    simp only [ps]
    omega
theorem ps_le {f g : Nat → Int} (h : ∀ j, f j ≤ g j) (c : UInt8) (b : Nat) : ∀ a, ps c f a b ≤ ps c g a b
  | 0 => by simp [ps]
  | a + 1 => by
    have := ps_le h c b a
    have t : term c f a b ≤ term c g a b := by
      unfold term
      split
      · exact h a
      · omega
    simp only [ps]
    omega
theorem rows_less (M : Nat) : ∀ (l : List UInt8) (f g : Nat → Int), NN g → (∀ j, f j ≤ g j) → NN (rows (M + 1) l g) ∧ ∀ j, rows M l f j ≤ rows (M + 1) l g j
  | [], _, _, hg, h => ⟨hg, h⟩
  | c :: l, f, g, hg, h => rows_less M l (nxt M c f) (nxt (M + 1) c g) (fun j => ps_nn hg c j (M + 1)) (fun j => by
      have h1 := ps_le h c j M
      have h2 := term_nn hg c M j
      unfold nxt
      simp only [ps]
      omega)
theorem tot_le {f g : Nat → Int} (h : ∀ j, f j ≤ g j) : ∀ n, tot f n ≤ tot g n
  | 0 => by simp [tot]
  | n + 1 => by
    have := tot_le h n
    have := h n
    simp only [tot]
    omega
theorem mny_less (l : List UInt8) (M : Nat) : mny l M ≤ mny l (M + 1) := by
  obtain ⟨h1, h2⟩ := rows_less M l (fun _ => 1) (fun _ => 1) (fun _ => by show (0 : Int) ≤ 1; omega) (fun _ => by show (1 : Int) ≤ 1; omega)
  have a := tot_le h2 M
  have b := h1 M
  unfold mny
  simp only [tot]
  omega
theorem L_append (a b : ByteArray) : L (a ++ b) = L a ++ L b := by simp [L]
theorem L_turn (s : ByteArray) : L (turnB s) = (L s).map ot := L_mk _
theorem L_back (s : ByteArray) : L (backB s) = (L s).reverse.map ot := L_mk _
theorem size_turn (s : ByteArray) : (turnB s).size = s.size := by rw [L_size, L_turn, List.length_map, ← L_size]
theorem size_back (s : ByteArray) : (backB s).size = s.size := by rw [L_size, L_back, List.length_map, List.length_reverse, ← L_size]
theorem map_ot_way (l : List UInt8) : (l.map ot).all wayC = true := by
  rw [List.all_eq_true]
  intro c hc
  obtain ⟨a, _, rfl⟩ := List.mem_map.1 hc
  exact ot_way a
theorem cv_turn (s : ByteArray) (h : cv s = true) : cv (turnB s) = true := by
  have := cv_size s h
  unfold cv
  rw [L_turn, map_ot_way, size_turn, decide_eq_true this]; rfl
theorem cv_back (s : ByteArray) (h : cv s = true) : cv (backB s) = true := by
  have := cv_size s h
  unfold cv
  rw [L_back, map_ot_way, size_back, decide_eq_true this]; rfl
theorem map_ot_ot (l : List UInt8) (h : ∀ c ∈ l, wayC c = true) : (l.map ot).map ot = l := by
  rw [List.map_map]
  conv => rhs; rw [← List.map_id l]
  apply List.map_congr_left
  intro c hc
  exact ot_ot c (h c hc)
theorem turn_turn (s : ByteArray) (h : cv s = true) : turnB (turnB s) = s := by
  apply ba_ext
  rw [L_turn, L_turn, map_ot_ot _ (cv_all s h)]
theorem back_turn (s : ByteArray) : backB (turnB s) = turnB (backB s) := by
  apply ba_ext
  rw [L_back, L_turn, L_turn, L_back, ← List.map_reverse]
theorem manyV_turn (s : ByteArray) (m : Int) : cv s = true → manyV (turnB s) m = manyV s m := by
  intro h
  unfold manyV
  rw [cv_turn s h, h, size_turn, L_turn, mny_turn _ (cv_all s h)]
theorem manyV_back (s : ByteArray) (m : Int) : cv s = true → manyV (backB s) m = manyV s m := by
  intro h
  unfold manyV
  rw [cv_back s h, h, size_back, L_back, mny_back _ (cv_all s h)]
theorem cv_snoc (s : ByteArray) (c : UInt8) (hc : wayC c = true) (h : cv s = true) (hn : s.size < 23) : cv (s ++ ⟨#[c]⟩) = true := by
  have h1 := cv_all s h
  unfold cv
  rw [Bool.and_eq_true, List.all_eq_true, decide_eq_true_eq, L_append, ByteArray.size_append, sz_one]
  refine ⟨fun x hx => ?_, by omega⟩
  rcases List.mem_append.1 hx with g | g
  · exact h1 x g
  · rw [show L ⟨#[c]⟩ = [c] from rfl, List.mem_singleton] at g
    rw [g]; exact hc
theorem manyV_snoc (s : ByteArray) (c : UInt8) (hc : wayC c = true) (h : cv s = true) (hn : s.size < 8) (M : Nat) (h1 : 1 ≤ M) (hM : M ≤ 21) : manyV (s ++ ⟨#[c]⟩) ((M : Int) - 1) = mny (L s ++ [c]) M := by
  unfold manyV
  rw [if_pos ⟨cv_snoc s c hc h (by omega), by rw [ByteArray.size_append, sz_one]; omega, by omega, by omega⟩, L_append, show ((M : Int) - 1 + 1).toNat = M by omega]
theorem mx_max (a b : Int) : mx a b = max a b := by unfold mx; omega
theorem mn_min (a b : Int) : mn a b = min a b := by unfold mn; omega
/-- The least steps that the ways ahead of a tone allow. -/
def cP (w : Nat → UInt8) : Nat → Int
  | 0 => 0
  | j + 1 => if w j = 117 then cP w j + 1 else if w j = 100 then 0 else cP w j
def cVr (w : Nat → UInt8) (n : Nat) : Nat → Int
  | 0 => cP w n
  | d + 1 => if w (n - (d + 1)) = 117 then cP w (n - (d + 1)) else if w (n - (d + 1)) = 100 then max (cP w (n - (d + 1))) (cVr w n d + 1) else max (cP w (n - (d + 1))) (cVr w n d)
/-- The least steps. -/
def cV (w : Nat → UInt8) (n j : Nat) : Int := cVr w n (n - j)
theorem cV_end (w : Nat → UInt8) (n : Nat) : cV w n n = cP w n := by unfold cV; rw [Nat.sub_self]; rfl
theorem cV_step (w : Nat → UInt8) (n j : Nat) (h : j < n) : cV w n j = if w j = 117 then cP w j else if w j = 100 then max (cP w j) (cV w n (j + 1) + 1) else max (cP w j) (cV w n (j + 1)) := by
  unfold cV
  obtain ⟨d, hd⟩ : ∃ d, n - j = d + 1 := ⟨n - j - 1, by omega⟩
  rw [hd, show n - (j + 1) = d by omega]
  simp only [cVr]
  rw [show n - (d + 1) = j by omega]
theorem cP_bd (w : Nat → UInt8) : ∀ j, 0 ≤ cP w j ∧ cP w j ≤ j
  | 0 => by simp [cP]
  | j + 1 => by
    have := cP_bd w j
    simp only [cP]
    split
    · omega
    · split <;> omega
theorem cVr_bd (w : Nat → UInt8) (n : Nat) : ∀ d, d ≤ n → 0 ≤ cVr w n d ∧ cVr w n d ≤ n + d
  | 0, _ => by
    have := cP_bd w n
    simp only [cVr]
    omega
  | d + 1, h => by
    have ih := cVr_bd w n d (by omega)
    have := cP_bd w (n - (d + 1))
    simp only [cVr]
    split
    · omega
    · split <;> omega
theorem cV_bd (w : Nat → UInt8) (n j : Nat) (h : j ≤ n) : 0 ≤ cV w n j ∧ cV w n j ≤ 2 * n := by
  have := cVr_bd w n (n - j) (by omega)
  unfold cV
  omega
theorem cV_P (w : Nat → UInt8) (n j : Nat) (h : j ≤ n) : cP w j ≤ cV w n j := by
  by_cases e : j = n
  · rw [e, cV_end]; omega
  · rw [cV_step w n j (by omega)]
    split
    · omega
    · split <;> omega
/-- The way between two whole numbers. -/
def cmpW (a b : Int) : UInt8 := if b > a then 117 else if b < a then 100 else 115
theorem cmp_u (a b : Int) : cmpW a b = 117 ↔ b > a := by
  unfold cmpW
  by_cases h : b > a
  · rw [if_pos h]; simp [h]
  · rw [if_neg h]
    by_cases h2 : b < a
    · rw [if_pos h2]; simp; omega
    · rw [if_neg h2]; simp; omega
theorem cmp_d (a b : Int) : cmpW a b = 100 ↔ b < a := by
  unfold cmpW
  by_cases h : b > a
  · rw [if_pos h]; simp; omega
  · rw [if_neg h]
    by_cases h2 : b < a
    · rw [if_pos h2]; simp [h2]
    · rw [if_neg h2]; simp; omega
theorem cmp_s (a b : Int) : cmpW a b = 115 ↔ b = a := by
  unfold cmpW
  by_cases h : b > a
  · rw [if_pos h]; simp; omega
  · rw [if_neg h]
    by_cases h2 : b < a
    · rw [if_pos h2]; simp; omega
    · rw [if_neg h2]; simp; omega
/-- A list of steps has a contour. -/
def Has (w : Nat → UInt8) (n : Nat) (x : Nat → Int) : Prop := ∀ j, j < n → cmpW (x j) (x (j + 1)) = w j
theorem has_V (w : Nat → UInt8) (n : Nat) (hw : ∀ j, j < n → wayC (w j) = true) : Has w n (cV w n) := by
  intro j hj
  have h0 := cV_step w n j hj
  have h1 := cV_P w n (j + 1) (by omega)
  have h2 := cV_P w n j (by omega)
  simp only [cP] at h1
  rcases wayC_cases _ (hw j hj) with h | h | h
  · rw [h, cmp_u]
    rw [if_pos h] at h0 h1
    omega
  · rw [h, cmp_d]
    rw [if_neg (by rw [h]; decide), if_pos h] at h0
    omega
  · rw [h, cmp_s]
    rw [if_neg (by rw [h]; decide), if_neg (by rw [h]; decide)] at h0 h1
    omega
theorem least_P (w : Nat → UInt8) (n : Nat) (hw : ∀ j, j < n → wayC (w j) = true) (x : Nat → Int) (h0 : ∀ j, j ≤ n → 0 ≤ x j) (hx : Has w n x) : ∀ j, j ≤ n → cP w j ≤ x j
  | 0, h => h0 0 h
  | j + 1, h => by
    have ih := least_P w n hw x h0 hx j (by omega)
    have a := hx j (by omega)
    have b := h0 (j + 1) h
    simp only [cP]
    rcases wayC_cases _ (hw j (by omega)) with g | g | g
    · rw [if_pos g]
      rw [g, cmp_u] at a
      omega
    · rw [if_neg (by rw [g]; decide), if_pos g]
      exact b
    · rw [if_neg (by rw [g]; decide), if_neg (by rw [g]; decide)]
      rw [g, cmp_s] at a
      omega
theorem least_V (w : Nat → UInt8) (n : Nat) (hw : ∀ j, j < n → wayC (w j) = true) (x : Nat → Int) (h0 : ∀ j, j ≤ n → 0 ≤ x j) (hx : Has w n x) : ∀ d j, j + d = n → cV w n j ≤ x j := by
  intro d
  induction d with
  | zero =>
    intro j hj
    obtain rfl : j = n := by omega
    rw [cV_end]
    exact least_P w j hw x h0 hx j (by omega)
  | succ d ih =>
    intro j hj
    have ih := ih (j + 1) (by omega)
    have p := least_P w n hw x h0 hx j (by omega)
    have a := hx j (by omega)
    rw [cV_step w n j (by omega)]
    rcases wayC_cases _ (hw j (by omega)) with g | g | g
    · rw [if_pos g]
      exact p
    · rw [if_neg (by rw [g]; decide), if_pos g]
      rw [g, cmp_d] at a
      omega
    · rw [if_neg (by rw [g]; decide), if_neg (by rw [g]; decide)]
      rw [g, cmp_s] at a
      omega
/-- The ways of a text. -/
def wf (s : ByteArray) (j : Nat) : UInt8 := (L s).getD j 115
theorem wf_some (s : ByteArray) (j : Nat) (c : UInt8) (h : (L s)[j]? = some c) : wf s j = c := by
  unfold wf
  rw [List.getD_eq_getElem?_getD, h]; rfl
theorem wf_way (s : ByteArray) (h : ∀ c ∈ L s, wayC c = true) (j : Nat) (hj : j < s.size) : wayC (wf s j) = true := by
  obtain ⟨c, hc, _⟩ := drop_c (L s) j (by rw [← L_size]; omega)
  rw [wf_some s j c hc]
  exact h c (List.mem_of_getElem? hc)
theorem lo0 (s : ByteArray) (hs : s.size < 24) (hw : ∀ c ∈ L s, wayC c = true) : ∀ (d k i : Nat), i + d = s.size →
    impl_ContourLeast.l0 (k + d + 1) s (ml (s.size + 1) (fun j => if j ≤ i then cP (wf s) j else 0)) (s.size : Int) (i : Int) = impl_ContourLeast.l1 k s (ml (s.size + 1) (cP (wf s))) ((s.size : Int) - 1) := by
  intro d
  induction d with
  | zero =>
    intro k i hi
    simp only [impl_ContourLeast.l0]
    rw [if_neg (by omega), w64 (by omega) (by omega), ml_congr (s.size + 1) _ (cP (wf s)) (fun j hj => by rw [if_pos (by omega)])]
  | succ d ih =>
    intro k i hi
    obtain ⟨q, hq⟩ : ∃ q, k + d + 1 = q := ⟨_, rfl⟩
    rw [show k + (d + 1) + 1 = q + 1 by omega]
    obtain ⟨c, hc, _⟩ := drop_c (L s) i (by rw [← L_size]; omega)
    have hp := cP_bd (wf s) i
    simp only [impl_ContourLeast.l0]
    rw [if_pos (by omega), if_pos (by omega), if_pos (by omega), bt_n s i c hc, w_succ (n := i) (by omega), ml_len]
    have key : ∀ v : Int, v = cP (wf s) (i + 1) → impl_ContourLeast.l0 q s ((ml (s.size + 1) (fun j => if j ≤ i then cP (wf s) j else 0)).set (((i + 1 : Nat) : Int).toNat) v) (s.size : Int) ((i + 1 : Nat) : Int) = impl_ContourLeast.l1 k s (ml (s.size + 1) (cP (wf s))) ((s.size : Int) - 1) := by
      intro v hv
      rw [Int.toNat_natCast, ml_set, ← ih k (i + 1) (by omega), hq]
      congr 1
      apply ml_congr
      intro j hj
      by_cases h : j = i + 1
      · rw [if_pos h, if_pos (by omega), hv, h]
      · rw [if_neg h]
        by_cases h2 : j ≤ i
        · rw [if_pos h2, if_pos (by omega)]
        · rw [if_neg h2, if_neg (by omega)]
    rcases wayC_cases c (hw c (List.mem_of_getElem? hc)) with g | g | g
    · rw [if_pos ((is_u c).2 g), if_pos (by omega), if_pos (by omega), if_pos (by omega), ml_rd _ _ _ (by omega), if_pos (Nat.le_refl i), w64 (by omega) (by omega)]
      apply key
      simp only [cP]
      rw [if_pos (by rw [wf_some s i c hc, g])]
    · rw [if_neg (by rw [g]; decide), if_neg (by rw [g]; decide), ← ih k (i + 1) (by omega), hq]
      congr 1
      apply ml_congr
      intro j hj
      by_cases h : j = i + 1
      · rw [if_neg (by omega), if_pos (by omega), h]
        simp only [cP]
        rw [if_neg (by rw [wf_some s i c hc, g]; decide), if_pos (by rw [wf_some s i c hc, g])]
      · by_cases h2 : j ≤ i
        · rw [if_pos h2, if_pos (by omega)]
        · rw [if_neg h2, if_neg (by omega)]
    · rw [if_neg (by rw [g]; decide), if_pos ((is_s c).2 g), if_pos (by omega), if_pos (by omega), if_pos (by omega), ml_rd _ _ _ (by omega), if_pos (Nat.le_refl i)]
      apply key
      simp only [cP]
      rw [if_neg (by rw [wf_some s i c hc, g]; decide), if_neg (by rw [wf_some s i c hc, g]; decide)]
theorem lo1 (s : ByteArray) (hs : s.size < 24) (hw : ∀ c ∈ L s, wayC c = true) : ∀ (m k : Nat), m ≤ s.size →
    impl_ContourLeast.l1 (k + m + 1) s (ml (s.size + 1) (fun j => if m ≤ j then cV (wf s) s.size j else cP (wf s) j)) ((m : Int) - 1) = some (ml (s.size + 1) (cV (wf s) s.size), true) := by
  intro m
  induction m with
  | zero =>
    intro k hm
    simp only [impl_ContourLeast.l1]
    rw [if_neg (by omega), ml_congr (s.size + 1) _ (cV (wf s) s.size) (fun j hj => by rw [if_pos (by omega)])]
  | succ m ih =>
    intro k hm
    obtain ⟨q, hq⟩ : ∃ q, k + m + 1 = q := ⟨_, rfl⟩
    rw [show k + (m + 1) + 1 = q + 1 by omega]
    obtain ⟨c, hc, _⟩ := drop_c (L s) m (by rw [← L_size]; omega)
    have hp := cP_bd (wf s) m
    have hv := cV_bd (wf s) s.size (m + 1) (by omega)
    have hst := cV_step (wf s) s.size m (by omega)
    rw [wf_some s m c hc] at hst
    simp only [impl_ContourLeast.l1]
    rw [show ((m + 1 : Nat) : Int) - 1 = (m : Int) by omega, if_pos (by omega), if_pos (by omega), if_pos (by omega), bt_n s m c hc, w_succ (n := m) (by omega), ml_len, w64 (x := (m : Int) - 1) (by omega) (by omega)]
    have r1 : rd (ml (s.size + 1) (fun j => if m + 1 ≤ j then cV (wf s) s.size j else cP (wf s) j)) (m : Int) = cP (wf s) m := by rw [ml_rd _ _ _ (by omega), if_neg (by omega)]
    have r2 : rd (ml (s.size + 1) (fun j => if m + 1 ≤ j then cV (wf s) s.size j else cP (wf s) j)) ((m + 1 : Nat) : Int) = cV (wf s) s.size (m + 1) := by rw [ml_rd _ _ _ (by omega), if_pos (by omega)]
    have key : ∀ v : Int, v = cV (wf s) s.size m → impl_ContourLeast.l1 q s ((ml (s.size + 1) (fun j => if m + 1 ≤ j then cV (wf s) s.size j else cP (wf s) j)).set ((m : Int).toNat) v) ((m : Int) - 1) = some (ml (s.size + 1) (cV (wf s) s.size), true) := by
      intro v hv
      rw [Int.toNat_natCast, ml_set, ← ih k (by omega), hq]
      congr 1
      apply ml_congr
      intro j hj
      by_cases h : j = m
      · rw [if_pos h, if_pos (by omega), hv, h]
      · rw [if_neg h]
        by_cases h2 : m + 1 ≤ j
        · rw [if_pos h2, if_pos (by omega)]
        · rw [if_neg h2, if_neg (by omega)]
    rcases wayC_cases c (hw c (List.mem_of_getElem? hc)) with g | g | g
    · rw [if_neg (by rw [g]; decide), if_neg (by rw [g]; decide)]
      rw [if_pos g] at hst
      have := key (cP (wf s) m) hst.symm
      rw [Int.toNat_natCast, ml_set] at this
      rw [← this]
      congr 1
      apply ml_congr
      intro j hj
      by_cases h : j = m
      · rw [if_pos h, if_neg (by omega), h]
      · rw [if_neg h]
    · rw [if_pos ((is_d c).2 g), if_pos (by omega), if_pos (by omega), if_pos (by omega), r1, r2, w64 (by omega) (by omega), mx_max]
      apply key
      rw [if_neg (by rw [g]; decide), if_pos g] at hst
      exact hst.symm
    · rw [if_neg (by rw [g]; decide), if_pos ((is_s c).2 g), if_pos (by omega), if_pos (by omega), if_pos (by omega), r1, r2, mx_max]
      apply key
      rw [if_neg (by rw [g]; decide), if_neg (by rw [g]; decide)] at hst
      exact hst.symm
/-- The least steps of a contour. -/
def leastV (s : ByteArray) : List Int := ml (s.size + 1) (cV (wf s) s.size)
theorem implLeast (s : ByteArray) (hs : s.size ≤ 1100000) (k : Nat) (hk : 1300 ≤ k) : impl_ContourLeast.f k s = some (if cv s = true then (leastV s, true) else ([], false)) := by
  unfold impl_ContourLeast.f
  rw [implCV s hs]
  simp only [bs]
  by_cases h : cv s = true
  · have h24 := cv_size s h
    rw [if_pos h, if_pos h, w_succ (by omega), if_pos (by omega), Int.toNat_natCast, if_pos (by omega), ml_rep]
    have a := lo0 s h24 (cv_all s h) s.size (k - s.size - 1) 0 (by omega)
    rw [show k - s.size - 1 + s.size + 1 = k by omega, show ((0 : Nat) : Int) = 0 from rfl, ml_congr (s.size + 1) (fun j => if j ≤ 0 then cP (wf s) j else 0) (fun _ => 0) (fun j hj => by
      by_cases h0 : j ≤ 0
      · rw [if_pos h0, show j = 0 by omega]; rfl
      · rw [if_neg h0])] at a
    rw [a]
    have b := lo1 s h24 (cv_all s h) s.size (k - s.size - 1 - s.size - 1) (by omega)
    rw [show k - s.size - 1 - s.size - 1 + s.size + 1 = k - s.size - 1 by omega, ml_congr (s.size + 1) (fun j => if s.size ≤ j then cV (wf s) s.size j else cP (wf s) j) (cP (wf s)) (fun j hj => by
      by_cases h0 : s.size ≤ j
      · rw [if_pos h0, show j = s.size by omega, cV_end]
      · rw [if_neg h0])] at b
    exact b
  · rw [if_neg h, if_neg h]
/-- One way is set right. -/
def rel (w : Nat → UInt8) (F : Nat → Int) (k : Nat) : Nat → Int := fun j =>
  if w k = 117 then (if j = k + 1 then max (F (k + 1)) (F k + 1) else F j)
  else if w k = 100 then (if j = k then max (F k) (F (k + 1) + 1) else F j)
  else (if j = k + 1 then max (F k) (F (k + 1)) else if j = k then max (F k) (F (k + 1)) else F j)
def pass (w : Nat → UInt8) (F : Nat → Int) : Nat → (Nat → Int)
  | 0 => F
  | k + 1 => rel w (pass w F k) k
theorem rel_ge (w : Nat → UInt8) (F : Nat → Int) (k j : Nat) : F j ≤ rel w F k j := by
  unfold rel
  by_cases h1 : w k = 117
  · rw [if_pos h1]
    by_cases h : j = k + 1
    · rw [if_pos h, h]; omega
    · rw [if_neg h]; omega
  · rw [if_neg h1]
    by_cases h2 : w k = 100
    · rw [if_pos h2]
      by_cases h : j = k
      · rw [if_pos h, h]; omega
      · rw [if_neg h]; omega
    · rw [if_neg h2]
      by_cases h : j = k + 1
      · rw [if_pos h, h]; omega
      · rw [if_neg h]
        by_cases h3 : j = k
        · rw [if_pos h3, h3]; omega
        · rw [if_neg h3]; omega
theorem pass_ge (w : Nat → UInt8) (F : Nat → Int) (j : Nat) : ∀ k, F j ≤ pass w F k j
  | 0 => Int.le_refl _
  | k + 1 => by
    have := pass_ge w F j k
    have := rel_ge w (pass w F k) k j
    simp only [pass]
    omega
theorem pass_ge2 (w : Nat → UInt8) (F : Nat → Int) (j k : Nat) : ∀ d, pass w F k j ≤ pass w F (k + d) j
  | 0 => Int.le_refl _
  | d + 1 => by
    have := pass_ge2 w F j k d
    have := rel_ge w (pass w F (k + d)) (k + d) j
    show _ ≤ pass w F (k + d + 1) j
    simp only [pass]
    omega
section
set_option linter.unusedSectionVars false
variable (w : Nat → UInt8) (n : Nat) (hw : ∀ j, j < n → wayC (w j) = true)
include hw
theorem rel_le (F : Nat → Int) (h : ∀ j, j ≤ n → F j ≤ cV w n j) (k : Nat) (hk : k < n) : ∀ j, j ≤ n → rel w F k j ≤ cV w n j := by
  intro j hj
  have hv := has_V w n hw k hk
  have a := h k (by omega)
  have b := h (k + 1) (by omega)
  have c := h j hj
  unfold rel
  rcases wayC_cases _ (hw k hk) with g | g | g
  · rw [if_pos g]
    rw [g, cmp_u] at hv
    by_cases e : j = k + 1
    · rw [if_pos e, e]; omega
    · rw [if_neg e]; exact c
  · rw [if_neg (by rw [g]; decide), if_pos g]
    rw [g, cmp_d] at hv
    by_cases e : j = k
    · rw [if_pos e, e]; omega
    · rw [if_neg e]; exact c
  · rw [if_neg (by rw [g]; decide), if_neg (by rw [g]; decide)]
    rw [g, cmp_s] at hv
    by_cases e : j = k + 1
    · rw [if_pos e, e]; omega
    · rw [if_neg e]
      by_cases e2 : j = k
      · rw [if_pos e2, e2]; omega
      · rw [if_neg e2]; exact c
theorem pass_le (F : Nat → Int) (h : ∀ j, j ≤ n → F j ≤ cV w n j) : ∀ k, k ≤ n → ∀ j, j ≤ n → pass w F k j ≤ cV w n j
  | 0, _ => h
  | k + 1, hk => rel_le w n hw (pass w F k) (pass_le F h k (by omega)) k (by omega)
theorem pass_P (F : Nat → Int) (h : ∀ j, 0 ≤ F j) : ∀ k, k ≤ n → ∀ j, j ≤ k → cP w j ≤ pass w F k j
  | 0, _, j, hj => by
    obtain rfl : j = 0 := by omega
    exact h 0
  | k + 1, hk, j, hj => by
    have ih := pass_P F h k (by omega)
    have g0 := rel_ge w (pass w F k) k j
    by_cases e : j = k + 1
    · have p := ih k (by omega)
      have nn := h j
      have g1 := pass_ge w F j k
      rw [e]
      simp only [pass, cP]
      rw [e] at g0 g1 nn
      rcases wayC_cases _ (hw k (by omega)) with g | g | g
      · rw [if_pos g]
        unfold rel
        rw [if_pos g, if_pos rfl]
        omega
      · rw [if_neg (by rw [g]; decide), if_pos g]
        omega
      · rw [if_neg (by rw [g]; decide), if_neg (by rw [g]; decide)]
        unfold rel
        rw [if_neg (by rw [g]; decide), if_neg (by rw [g]; decide), if_pos rfl]
        omega
    · have := ih j (by omega)
      simp only [pass]
      omega
/-- A round more sets one place more right, from the end on. -/
theorem pass_V (F : Nat → Int) (hP : ∀ j, j ≤ n → cP w j ≤ F j) (r : Nat) (h : ∀ j, j ≤ n → n ≤ j + r → cV w n j ≤ F j) : ∀ j, j ≤ n → n ≤ j + (r + 1) → cV w n j ≤ pass w F n j := by
  intro j hj hr
  by_cases e : n ≤ j + r
  · have := h j hj e
    have := pass_ge w F j n
    omega
  · have hjn : j < n := by omega
    have a := h (j + 1) (by omega) (by omega)
    have b := pass_ge w F (j + 1) j
    have c := pass_ge w F j j
    have p := hP j (by omega)
    have m := pass_ge2 w F j (j + 1) (n - (j + 1))
    rw [show j + 1 + (n - (j + 1)) = n by omega] at m
    have key : cV w n j ≤ pass w F (j + 1) j := by
      rw [cV_step w n j hjn]
      simp only [pass]
      rcases wayC_cases _ (hw j hjn) with g | g | g
      · rw [if_pos g]
        have := rel_ge w (pass w F j) j j
        omega
      · rw [if_neg (by rw [g]; decide), if_pos g]
        unfold rel
        rw [if_neg (by rw [g]; decide), if_pos g, if_pos rfl]
        omega
      · rw [if_neg (by rw [g]; decide), if_neg (by rw [g]; decide)]
        unfold rel
        rw [if_neg (by rw [g]; decide), if_neg (by rw [g]; decide), if_neg (by omega), if_pos rfl]
        omega
    omega
end
def rds (w : Nat → UInt8) (n : Nat) : Nat → (Nat → Int)
  | 0 => fun _ => 0
  | r + 1 => pass w (rds w n r) n
section
set_option linter.unusedSectionVars false
variable (w : Nat → UInt8) (n : Nat) (hw : ∀ j, j < n → wayC (w j) = true)
include hw
theorem rds_nn (_ : n = n) : ∀ r j, 0 ≤ rds w n r j
  | 0, _ => Int.le_refl _
  | r + 1, j => by
    have := rds_nn rfl r j
    have := pass_ge w (rds w n r) j n
    simp only [rds]
    omega
theorem rds_le : ∀ r j, j ≤ n → rds w n r j ≤ cV w n j
  | 0, j, hj => (cV_bd w n j hj).1
  | r + 1, j, hj => pass_le w n hw (rds w n r) (rds_le r) n (Nat.le_refl _) j hj
theorem rds_P : ∀ r j, j ≤ n → cP w j ≤ rds w n (r + 1) j := fun r j hj => pass_P w n hw (rds w n r) (rds_nn w n hw rfl r) n (Nat.le_refl _) j hj
theorem rds_V : ∀ r j, j ≤ n → n ≤ j + r → cV w n j ≤ rds w n (r + 1) j
  | 0, j, hj, hr => by
    have := rds_P w n hw 0 j hj
    obtain rfl : j = n := by omega
    rw [cV_end]
    exact this
  | r + 1, j, hj, hr => pass_V w n hw (rds w n (r + 1)) (rds_P w n hw r) r (rds_V r) j hj hr
theorem rds_eq (r : Nat) (hr : n ≤ r) (j : Nat) (hj : j ≤ n) : rds w n (r + 1) j = cV w n j := by
  have a := rds_V w n hw r j hj (by omega)
  have b := rds_le w n hw (r + 1) j hj
  omega
end
theorem so1 (s : ByteArray) (hs : s.size < 24) (hw : ∀ c ∈ L s, wayC c = true) (F : Nat → Int) (hF0 : ∀ j, 0 ≤ F j) (hF : ∀ j, j ≤ s.size → F j ≤ cV (wf s) s.size j) (r : Int) (hr : 0 ≤ r ∧ r ≤ 100) : ∀ (d k i : Nat), i + d = s.size →
    spec_ContourLeast.l1 (k + d + 1) s (ml (s.size + 1) (pass (wf s) F i)) r (i : Int) = spec_ContourLeast.l0 k s (ml (s.size + 1) (pass (wf s) F s.size)) (r + 1) := by
  intro d
  induction d with
  | zero =>
    intro k i hi
    obtain rfl : i = s.size := by omega
    simp only [spec_ContourLeast.l1]
    rw [if_neg (by omega), w64 (by omega) (by omega)]
  | succ d ih =>
    intro k i hi
    obtain ⟨q, hq⟩ : ∃ q, k + d + 1 = q := ⟨_, rfl⟩
    rw [show k + (d + 1) + 1 = q + 1 by omega]
    obtain ⟨c, hc, _⟩ := drop_c (L s) i (by rw [← L_size]; omega)
    have hwf := wf_some s i c hc
    have u1 := pass_le (wf s) s.size (wf_way s hw) F hF i (by omega) i (by omega)
    have u2 := pass_le (wf s) s.size (wf_way s hw) F hF i (by omega) (i + 1) (by omega)
    have v1 := cV_bd (wf s) s.size i (by omega)
    have v2 := cV_bd (wf s) s.size (i + 1) (by omega)
    have z1 := hF0 i
    have z2 := hF0 (i + 1)
    have y1 := pass_ge (wf s) F i i
    have y2 := pass_ge (wf s) F (i + 1) i
    simp only [spec_ContourLeast.l1]
    rw [if_pos (by omega), if_pos (by omega), bt_n s i c hc, w_succ (n := i) (by omega), ml_len, ml_rd _ _ i (by omega), ml_rd _ _ (i + 1) (by omega), Int.toNat_natCast, Int.toNat_natCast, mx_max, mx_max, mx_max]
    rcases wayC_cases c (hw c (List.mem_of_getElem? hc)) with g | g | g
    · rw [if_pos ((is_u c).2 g), if_pos (by omega), if_pos (by omega), if_pos (by omega), w64 (by omega) (by omega), ml_set, ← hq, ← ih k (i + 1) (by omega)]
      congr 1
      apply ml_congr
      intro j hj
      simp only [pass]
      unfold rel
      rw [if_pos (show wf s i = 117 by rw [hwf, g])]
    · rw [if_neg (by rw [g]; decide), if_pos ((is_d c).2 g), if_pos (by omega), if_pos (by omega), if_pos (by omega), w64 (by omega) (by omega), ml_set, ← hq, ← ih k (i + 1) (by omega)]
      congr 1
      apply ml_congr
      intro j hj
      simp only [pass]
      unfold rel
      rw [if_neg (show ¬ wf s i = 117 by rw [hwf, g]; decide), if_pos (show wf s i = 100 by rw [hwf, g])]
    · rw [if_neg (by rw [g]; decide), if_neg (by rw [g]; decide), if_pos (by omega), if_pos (by omega), if_pos (by omega), ml_set, ml_set, ← hq, ← ih k (i + 1) (by omega)]
      congr 1
      apply ml_congr
      intro j hj
      simp only [pass]
      unfold rel
      rw [if_neg (show ¬ wf s i = 117 by rw [hwf, g]; decide), if_neg (show ¬ wf s i = 100 by rw [hwf, g]; decide)]
theorem so0 (s : ByteArray) (hs : s.size < 24) (hw : ∀ c ∈ L s, wayC c = true) : ∀ (d k r : Nat), r + d = 2 * s.size + 1 →
    spec_ContourLeast.l0 (k + d * (s.size + 2) + 1) s (ml (s.size + 1) (rds (wf s) s.size r)) (r : Int) = some (ml (s.size + 1) (rds (wf s) s.size (2 * s.size + 1)), true) := by
  intro d
  induction d with
  | zero =>
    intro k r hr
    rw [show k + 0 * (s.size + 2) + 1 = k + 1 by omega]
    simp only [spec_ContourLeast.l0]
    rw [w64 (by omega) (by omega), if_neg (by omega), show r = 2 * s.size + 1 by omega]
  | succ d ih =>
    intro k r hr
    rw [show k + (d + 1) * (s.size + 2) + 1 = (k + d * (s.size + 2) + 1 + s.size + 1) + 1 by rw [Nat.succ_mul]; omega]
    simp only [spec_ContourLeast.l0]
    rw [w64 (by omega) (by omega), if_pos (by omega)]
    have := so1 s hs hw (rds (wf s) s.size r) (rds_nn _ _ (wf_way s hw) rfl r) (rds_le _ _ (wf_way s hw) r) (r : Int) (by omega) s.size (k + d * (s.size + 2) + 1) 0 (by omega)
    rw [show ((0 : Nat) : Int) = 0 from rfl] at this
    rw [show (pass (wf s) (rds (wf s) s.size r) 0) = rds (wf s) s.size r from rfl] at this
    rw [this]
    have := ih k (r + 1) (by omega)
    rw [show ((r + 1 : Nat) : Int) = (r : Int) + 1 by omega] at this
    exact this
theorem specLeast (s : ByteArray) (hs : s.size ≤ 1100000) (k : Nat) (hk : s.size + 1300 ≤ k) : spec_ContourLeast.f k s = some (if cv s = true then (leastV s, true) else ([], false)) := by
  unfold spec_ContourLeast.f
  rw [specCV s hs k (by omega)]
  simp only [bs]
  by_cases h : cv s = true
  · have h24 := cv_size s h
    rw [if_pos h, if_pos h, w_succ (by omega), if_pos (by omega), Int.toNat_natCast, if_pos (by omega), ml_rep]
    have e : (2 * s.size + 1) * (s.size + 2) ≤ 47 * 25 := Nat.mul_le_mul (by omega) (by omega)
    have a := so0 s h24 (cv_all s h) (2 * s.size + 1) (k - (2 * s.size + 1) * (s.size + 2) - 1) 0 (by omega)
    rw [show k - (2 * s.size + 1) * (s.size + 2) - 1 + (2 * s.size + 1) * (s.size + 2) + 1 = k by omega, show ((0 : Nat) : Int) = 0 from rfl] at a
    rw [show ml (s.size + 1) (fun _ => 0) = ml (s.size + 1) (rds (wf s) s.size 0) from rfl, a]
    unfold leastV
    rw [ml_congr (s.size + 1) _ (cV (wf s) s.size) (fun j hj => rds_eq (wf s) s.size (wf_way s (cv_all s h)) (2 * s.size) (by omega) j (by omega))]
  · rw [if_neg h, if_neg h]
theorem rd_n (l : List Int) (n : Nat) : rd l (n : Int) = l.getD n 0 := by
  unfold rd; rw [Int.toNat_natCast]
theorem dropI (l : List Int) (n : Nat) (h : n < l.length) : l.drop n = l.getD n 0 :: l.drop (n + 1) := by
  rw [List.drop_eq_getElem_cons h, List.getD_eq_getElem?_getD, List.getElem?_eq_getElem h]; rfl
/-- The numbers from c on, one a place. -/
def cnt : List Int → Int → List Int
  | [], _ => []
  | _ :: xs, c => c :: cnt xs (c + 1)
theorem cnt_len : ∀ (l : List Int) (c : Int), (cnt l c).length = l.length
  | [], _ => rfl
  | _ :: xs, c => by simp [cnt, cnt_len xs (c + 1)]
theorem cnt_eq : ∀ (l m : List Int) (c : Int), l.length = m.length → cnt l c = cnt m c
  | [], [], _, _ => rfl
  | [], _ :: _, _, h => by simp at h
  | _ :: _, [], _, h => by simp at h
  | _ :: xs, _ :: ys, c, h => by simp only [cnt]; rw [cnt_eq xs ys _ (by simpa using h)]
theorem sameI_loop (l : List Int) (hl : l.length ≤ 4000000) (d : Nat) : ∀ (k n : Nat), n + d = l.length → d < k → laws_sameInts.l0 k l l (n : Int) = some true := by
  induction d with
  | zero =>
    intro k n hn hk
    obtain ⟨k, rfl⟩ := round hk
    simp only [laws_sameInts.l0]
    rw [if_neg (by omega)]
  | succ d ih =>
    intro k n hn hk
    obtain ⟨k, rfl⟩ := round hk
    simp only [laws_sameInts.l0]
    rw [if_pos (by omega), if_pos (by omega), if_pos (by omega), if_pos trivial, w_succ (by omega), ih k (n + 1) (by omega) (by omega)]
theorem sameI (l : List Int) (hl : l.length ≤ 4000000) (k : Nat) (hk : l.length < k) : laws_sameInts.f k l l = some true := by
  unfold laws_sameInts.f
  rw [if_pos rfl]
  exact sameI_loop l hl l.length k 0 (by omega) hk
theorem xor_i64 (a b : Int) (h1 : 0 ≤ a) (h2 : a < 4611686018427387904) (h3 : 0 ≤ b) (h4 : b < 4611686018427387904) : 0 ≤ Go.bits .xor .i64 a b := by
  obtain ⟨A, rfl⟩ := Int.eq_ofNat_of_zero_le h1
  obtain ⟨B, rfl⟩ := Int.eq_ofNat_of_zero_le h3
  have hA : (BitVec.ofInt 64 (A : Int)).toNat = A := by
    rw [BitVec.ofInt_natCast, BitVec.toNat_ofNat]; exact Nat.mod_eq_of_lt (by omega)
  have hB : (BitVec.ofInt 64 (B : Int)).toNat = B := by
    rw [BitVec.ofInt_natCast, BitVec.toNat_ofNat]; exact Nat.mod_eq_of_lt (by omega)
  have hx : A ^^^ B < 2 ^ 62 := Nat.xor_lt_two_pow (by omega) (by omega)
  show 0 ≤ IntKind.i64.wrap ((BitVec.ofInt 64 (A : Int) ^^^ BitVec.ofInt 64 (B : Int)).toNat : Int)
  rw [BitVec.toNat_xor, hA, hB, i64_w]
  unfold wrap64
  omega
/-- The bytes that are read. -/
def Bytes (l : List Int) : Prop := l.length ≤ 2000 ∧ ∀ x ∈ l, 0 ≤ x ∧ x ≤ 255
theorem rd_byte {l : List Int} (h : Bytes l) (i : Int) : 0 ≤ rd l i ∧ rd l i ≤ 255 := by
  unfold rd
  rw [List.getD_eq_getElem?_getD]
  cases hx : l[i.toNat]? with
  | none => simp
  | some x => exact h.2 x (List.mem_of_getElem? hx)
theorem pick_ok (k : Nat) {l : List Int} (h : Bytes l) (p n : Int) (hp : 0 ≤ p ∧ p ≤ 1000000) (hn : 1 ≤ n ∧ n ≤ 1000000) : ∃ v, spec_l6Rd_pick.f (k + 1) l p n = some (v, p + 1) ∧ 0 ≤ v ∧ v < n := by
  obtain ⟨hlen, hb⟩ := id h
  unfold spec_l6Rd_pick.f
  rw [if_neg (by omega), w64 (by omega) (by omega)]
  simp only [spec_l6Rd_pick.j0]
  by_cases h0 : (l.length : Int) = 0
  · rw [if_pos (by simpa using h0)]
    exact ⟨0, rfl, by omega, by omega⟩
  · rw [if_neg (by simpa using h0)]
    have hL : 0 < (l.length : Int) := by omega
    rw [show p + 1 - 1 = p by omega, w64 (x := p) (by omega) (by omega)]
    have fin : ∀ x : Int, 0 ≤ x → ∃ v, some (Int.tmod x n, p + 1) = some (v, p + 1) ∧ 0 ≤ v ∧ v < n := fun x hx =>
      ⟨_, rfl, by rw [Int.tmod_eq_emod_of_nonneg hx]; exact Int.emod_nonneg _ (by omega), by rw [Int.tmod_eq_emod_of_nonneg hx]; exact Int.emod_lt_of_pos _ (by omega)⟩
    by_cases h1 : p < (l.length : Int)
    · rw [if_pos h1, if_pos hp.1, if_neg (by omega)]
      have hr := rd_byte h p
      rw [w64 (by omega) (by omega)]
      exact fin _ hr.1
    · rw [if_neg h1, if_neg h0]
      have e1 : Int.tmod p (l.length : Int) = p % (l.length : Int) := Int.tmod_eq_emod_of_nonneg hp.1
      have m0 := Int.emod_nonneg p (show (l.length : Int) ≠ 0 by omega)
      have m1 := Int.emod_lt_of_pos p hL
      have e2 : Int.tmod (wrap64 (wrap64 (p * 7) + 3)) (l.length : Int) = (p * 7 + 3) % (l.length : Int) := by
        rw [w64 (x := p * 7) (by omega) (by omega), w64 (by omega) (by omega)]
        exact Int.tmod_eq_emod_of_nonneg (by omega)
      have n0 := Int.emod_nonneg (p * 7 + 3) (show (l.length : Int) ≠ 0 by omega)
      have n1 := Int.emod_lt_of_pos (p * 7 + 3) hL
      have e3 : Int.tdiv p (l.length : Int) = p / (l.length : Int) := Int.tdiv_eq_ediv_of_nonneg hp.1
      have d0 : 0 ≤ p / (l.length : Int) := Int.ediv_nonneg hp.1 (by omega)
      have d1 : p / (l.length : Int) ≤ p := Int.ediv_le_self _ hp.1
      rw [e1, e2, e3, if_pos m0, if_pos m1, if_pos n0, if_pos n1, if_neg (by omega)]
      have r1 := rd_byte h (p % (l.length : Int))
      have r2 := rd_byte h ((p * 7 + 3) % (l.length : Int))
      generalize rd l (p % (l.length : Int)) = a at r1 ⊢
      generalize rd l ((p * 7 + 3) % (l.length : Int)) = b at r2 ⊢
      generalize p / (l.length : Int) = d at d0 d1 ⊢
      have s1 : wrap64 (wrap64 (wrap64 (wrap64 (wrap64 a * 131) + wrap64 (wrap64 b * 1117)) + wrap64 (p * 29)) + wrap64 (wrap64 d * 53)) = a * 131 + b * 1117 + p * 29 + d * 53 := by
        rw [w64 (x := a) (by omega) (by omega), w64 (x := b) (by omega) (by omega), w64 (x := d) (by omega) (by omega), w64 (x := a * 131) (by omega) (by omega), w64 (x := b * 1117) (by omega) (by omega),
          w64 (x := p * 29) (by omega) (by omega), w64 (x := d * 53) (by omega) (by omega), w64 (x := a * 131 + b * 1117) (by omega) (by omega), w64 (x := a * 131 + b * 1117 + p * 29) (by omega) (by omega), w64 (by omega) (by omega)]
      rw [s1]
      refine fin _ (xor_i64 _ _ (by omega) (by omega) ?_ ?_)
      · rw [Int.tdiv_eq_ediv_of_nonneg (by omega), w64 (by omega) (by omega)]; omega
      · rw [Int.tdiv_eq_ediv_of_nonneg (by omega), w64 (by omega) (by omega)]; omega
theorem open_ok (l : List Int) (hw : ∀ x ∈ l, (Lit.int .u8 x).wf = true) : ∃ l', spec_l6Open.f l = some (l', 0) ∧ Bytes l' := by
  have hb : ∀ x ∈ l, 0 ≤ x ∧ x ≤ 255 := fun x hx => by
    have := hw x hx
    simp only [Lit.wf, IntKind.min, IntKind.max, IntKind.signed, IntKind.bits, Bool.and_eq_true, decide_eq_true_eq, Bool.false_eq_true, if_false] at this
    omega
  unfold spec_l6Open.f
  by_cases h : (l.length : Int) > 2000
  · rw [if_pos h, if_pos (by omega)]
    exact ⟨_, rfl, by simp; omega, fun x hx => hb x (List.mem_of_mem_take hx)⟩
  · rw [if_neg h]
    exact ⟨_, rfl, by omega, hb⟩
theorem of_ok (k : Nat) {l : List Int} (h : Bytes l) (p : Int) (hp : 0 ≤ p ∧ p ≤ 1000000) (ls : List ByteArray) (hn : 1 ≤ ls.length) (hn2 : ls.length ≤ 1000000) : ∃ e, e ∈ ls ∧ spec_l6Rd_of.f (k + 1) l p ls = some (e, p + 1) := by
  obtain ⟨v, hv, h0, h1⟩ := pick_ok k h p (ls.length : Int) hp (by omega)
  unfold spec_l6Rd_of.f
  rw [hv]
  simp only [bs]
  rw [if_pos h0, if_pos h1]
  have hl : v.toNat < ls.length := by omega
  refine ⟨ls[v.toNat], List.getElem_mem hl, ?_⟩
  unfold rdOf
  rw [List.getD_eq_getElem?_getD, List.getElem?_eq_getElem hl]
  rfl
theorem contour_loop {l : List Int} (h : Bytes l) (x6 : Int) (hx : x6 ≤ 30) (d : Nat) : ∀ (k : Nat) (s : ByteArray) (x7 p : Int), x7 + d = x6 → 0 ≤ x7 → 0 ≤ p ∧ p + d ≤ 900 → s.size + d ≤ 80 →
    ∃ r q, spec_l91Contour.l0 (k + 1 + d + 1) s x6 x7 l p = some (r, q) ∧ r.size ≤ 81 ∧ 0 ≤ q ∧ q ≤ 902 := by
  induction d with
  | zero =>
    intro k s x7 p hd h0 hp hs
    simp only [spec_l91Contour.l0]
    rw [if_neg (by omega)]
    obtain ⟨v, e, h0, h1⟩ := pick_ok k h p 20 (by omega) (by omega)
    rw [show k + 1 + 0 = k + 1 by omega, e]
    simp only [bs]
    by_cases c0 : v = 0
    · rw [if_pos c0]
      obtain ⟨t, ht, e2⟩ := of_ok k h (p + 1) (by omega) [⟨#[120]⟩, ⟨#[85]⟩, ⟨#[32]⟩] (by decide) (by decide)
      rw [e2]
      simp only [bs]
      have hz : t.size = 1 := by
        simp at ht
        rcases ht with rfl | rfl | rfl <;> decide
      rw [if_pos (by omega)]
      exact ⟨_, _, rfl, by rw [ByteArray.size_append]; omega, by omega, by omega⟩
    · rw [if_neg c0]
      exact ⟨_, _, rfl, by omega, by omega, by omega⟩
  | succ d ih =>
    intro k s x7 p hd h0 hp hs
    obtain ⟨q, hq⟩ : ∃ q, k + 1 + d + 1 = q := ⟨_, rfl⟩
    rw [show k + 1 + (d + 1) + 1 = q + 1 by omega]
    simp only [spec_l91Contour.l0]
    rw [if_pos (by omega)]
    obtain ⟨t, ht, e2⟩ := of_ok (k + 1 + d) h p (by omega) [⟨#[117]⟩, ⟨#[100]⟩, ⟨#[115]⟩, ⟨#[117]⟩, ⟨#[100]⟩] (by decide) (by decide)
    rw [hq] at e2
    rw [e2]
    simp only [bs]
    have hz : t.size = 1 := by
      simp at ht
      rcases ht with rfl | rfl | rfl | rfl | rfl <;> decide
    rw [if_pos (by omega), w64 (by omega) (by omega), ← hq]
    exact ih k (s ++ t) (x7 + 1) (p + 1) (by omega) (by omega) (by omega) (by rw [ByteArray.size_append]; omega)
theorem contour_draw (k : Nat) {l : List Int} (h : Bytes l) (a : Int) (ha : 0 ≤ a ∧ a ≤ 20) : ∃ r q, spec_l91Contour.f (k + 40) l 0 a = some (r, q) ∧ r.size ≤ 81 ∧ 0 ≤ q ∧ q ≤ 902 := by
  unfold spec_l91Contour.f
  rw [w64 (by omega) (by omega)]
  obtain ⟨v, e, h0, h1⟩ := pick_ok (k + 39) h 0 (a + 1) (by omega) (by omega)
  rw [show k + 39 + 1 = k + 40 by omega] at e
  rw [e]
  simp only [bs]
  obtain ⟨d, hd⟩ : ∃ d : Nat, (d : Int) = v := ⟨v.toNat, by omega⟩
  have hb : (⟨#[]⟩ : ByteArray).size = 0 := rfl
  have := contour_loop h v (by omega) d (k + 38 - d) ⟨#[]⟩ 0 (0 + 1) (by omega) (by omega) (by omega) (by omega)
  rw [show k + 38 - d + 1 + d + 1 = k + 40 by omega] at this
  exact this
theorem leastV_len (s : ByteArray) : (leastV s).length = s.size + 1 := ml_len _ _
theorem cu (a b : Int) (h : b > a) : cmpW a b = 117 := (cmp_u a b).2 h
/-- The text of the ways of a list of steps. -/
def cof (F : Nat → Int) (n : Nat) : List UInt8 := (List.range n).map fun j => cmpW (F j) (F (j + 1))
theorem cof_snoc (F : Nat → Int) (n : Nat) : cof F n ++ [cmpW (F n) (F (n + 1))] = cof F (n + 1) := by
  unfold cof
  rw [List.range_succ, List.map_append]; rfl
theorem cof_len (F : Nat → Int) (n : Nat) : (cof F n).length = n := by simp [cof]
theorem cof_get (F : Nat → Int) (n j : Nat) (h : j < n) : (cof F n)[j]? = some (cmpW (F j) (F (j + 1))) := by
  unfold cof
  rw [List.getElem?_map, List.getElem?_range h]; rfl
theorem cof_loop (F : Nat → Int) (n : Nat) (hn : n ≤ 1000) : ∀ (d k i : Nat), i + d = n → d < k →
    laws_contourOf.l0 k (ml (n + 1) F) ⟨(cof F i).toArray⟩ ((i : Int) + 1) = some ⟨(cof F n).toArray⟩ := by
  intro d
  induction d with
  | zero =>
    intro k i hi hk
    obtain ⟨k, rfl⟩ := round hk
    simp only [laws_contourOf.l0]
    rw [ml_len, if_neg (by omega), show i = n by omega]
  | succ d ih =>
    intro k i hi hk
    obtain ⟨k, rfl⟩ := round hk
    have ih := ih k (i + 1) (by omega) (by omega)
    rw [← cof_snoc] at ih
    have e2 : wrap64 ((i : Int) + 1 + 1) = ((i + 1 : Nat) : Int) + 1 := by rw [w64 (by omega) (by omega)]; omega
    simp only [laws_contourOf.l0]
    rw [ml_len, if_pos (by omega), if_pos (by omega), w64 (x := (i : Int) + 1 - 1) (by omega) (by omega), show (i : Int) + 1 - 1 = (i : Int) by omega, if_pos (by omega), if_pos (by omega),
      e2, show (i : Int) + 1 = ((i + 1 : Nat) : Int) by omega, ml_rd _ _ _ (by omega), ml_rd _ _ _ (by omega), sz_mk, cof_len]
    unfold cmpW at ih
    by_cases h : F (i + 1) > F i
    · rw [if_pos h, if_pos (by omega), ba_push]
      rw [if_pos h] at ih
      exact ih
    · rw [if_neg h]
      rw [if_neg h] at ih
      by_cases h2 : F (i + 1) < F i
      · rw [if_pos h2, if_pos (by omega), ba_push]
        rw [if_pos h2] at ih
        exact ih
      · rw [if_neg h2, if_pos (by omega), ba_push]
        rw [if_neg h2] at ih
        exact ih
theorem cof_eq (F : Nat → Int) (n : Nat) (hn : n ≤ 1000) (k : Nat) (hk : n < k) : laws_contourOf.f k (ml (n + 1) F) = some ⟨(cof F n).toArray⟩ := by
  unfold laws_contourOf.f
  exact cof_loop F n hn n k 0 (by omega) hk
theorem has_cof (s : ByteArray) (F : Nat → Int) : cof F s.size = L s ↔ Has (wf s) s.size F := by
  constructor
  · intro h j hj
    have a := cof_get F s.size j hj
    rw [h] at a
    rw [wf_some s j _ a]
  · intro h
    apply List.ext_getElem?
    intro j
    by_cases hj : j < s.size
    · obtain ⟨c, hc, _⟩ := drop_c (L s) j (by rw [← L_size]; omega)
      rw [cof_get F s.size j hj, hc, h j hj, wf_some s j c hc]
    · rw [List.getElem?_eq_none (by rw [cof_len]; omega), List.getElem?_eq_none (by rw [← L_size]; omega)]
theorem cof_mk (F : Nat → Int) (n : Nat) : (⟨(cof F n).toArray⟩ : ByteArray).toList = cof F n := by rw [toList_L, L_mk]
def loF (F : Nat → Int) : Nat → Int
  | 0 => F 0
  | i + 1 => min (loF F i) (F i)
def hiF (F : Nat → Int) : Nat → Int
  | 0 => F 0
  | i + 1 => max (hiF F i) (F i)
theorem lo_le (F : Nat → Int) : ∀ n j, j < n → loF F n ≤ F j
  | n + 1, j, h => by
    simp only [loF]
    by_cases e : j = n
    · rw [e]; omega
    · have := lo_le F n j (by omega)
      omega
theorem hi_ge (F : Nat → Int) : ∀ n j, j < n → F j ≤ hiF F n
  | n + 1, j, h => by
    simp only [hiF]
    by_cases e : j = n
    · rw [e]; omega
    · have := hi_ge F n j (by omega)
      omega
theorem lo_mem (F : Nat → Int) : ∀ n, ∃ j, j ≤ n ∧ (n ≠ 0 → j < n) ∧ loF F n = F j
  | 0 => ⟨0, Nat.le_refl _, fun h => absurd rfl h, rfl⟩
  | n + 1 => by
    obtain ⟨j, h1, h2, h3⟩ := lo_mem F n
    simp only [loF]
    by_cases e : loF F n ≤ F n
    · exact ⟨j, by omega, fun _ => by omega, by omega⟩
    · exact ⟨n, by omega, fun _ => by omega, by omega⟩
theorem hi_mem (F : Nat → Int) : ∀ n, ∃ j, j ≤ n ∧ (n ≠ 0 → j < n) ∧ hiF F n = F j
  | 0 => ⟨0, Nat.le_refl _, fun h => absurd rfl h, rfl⟩
  | n + 1 => by
    obtain ⟨j, h1, h2, h3⟩ := hi_mem F n
    simp only [hiF]
    by_cases e : F n ≤ hiF F n
    · exact ⟨j, by omega, fun _ => by omega, by omega⟩
    · exact ⟨n, by omega, fun _ => by omega, by omega⟩
/-- The least steps begin at 0. -/
theorem low_zero (s : ByteArray) (h : cv s = true) : loF (cV (wf s) s.size) (s.size + 1) = 0 := by
  have hw := wf_way s (cv_all s h)
  obtain ⟨j, h1, h2, h3⟩ := lo_mem (cV (wf s) s.size) (s.size + 1)
  have hj := cV_bd (wf s) s.size j (by have := h2 (by omega); omega)
  by_cases e : loF (cV (wf s) s.size) (s.size + 1) = 0
  · exact e
  · exfalso
    have all : ∀ i, i ≤ s.size → 1 ≤ cV (wf s) s.size i := fun i hi => by
      have := lo_le (cV (wf s) s.size) (s.size + 1) i (by omega)
      omega
    have hv := has_V (wf s) s.size hw
    have := least_V (wf s) s.size hw (fun i => cV (wf s) s.size i - 1) (fun i hi => by have := all i hi; show (0 : Int) ≤ _ - 1; omega) (fun i hi => by
      have a := hv i hi
      rw [← a]
      unfold cmpW
      show (if _ - 1 > _ - 1 then _ else if _ - 1 < _ - 1 then _ else _) = _
      by_cases g : cV (wf s) s.size (i + 1) > cV (wf s) s.size i
      · rw [if_pos g, if_pos (by omega)]
      · rw [if_neg g, if_neg (by omega)]
        by_cases g2 : cV (wf s) s.size (i + 1) < cV (wf s) s.size i
        · rw [if_pos g2, if_pos (by omega)]
        · rw [if_neg g2, if_neg (by omega)]) s.size 0 (by omega)
    have this : cV (wf s) s.size 0 ≤ cV (wf s) s.size 0 - 1 := this
    omega
theorem ps_term {f : Nat → Int} (h : NN f) (c : UInt8) (b : Nat) : ∀ m a, a < m → term c f a b ≤ ps c f m b
  | m + 1, a, ha => by
    have p := ps_nn h c b m
    have t := term_nn h c m b
    simp only [ps]
    by_cases e : a = m
    · rw [e]; omega
    · have := ps_term h c b m a (by omega)
      omega
theorem tot_ge {f : Nat → Int} (h : NN f) : ∀ n j, j < n → f j ≤ tot f n
  | n + 1, j, hj => by
    have a := h n
    have b : 0 ≤ tot f n := by
      clear hj
      induction n with
      | zero => simp [tot]
      | succ n ih => have := ih (h n); have := h n; simp only [tot]; omega
    simp only [tot]
    by_cases e : j = n
    · rw [e]; omega
    · have := tot_ge h n j (by omega)
      omega
theorem ps_pos (c : UInt8) (f : Nat → Int) (b : Nat) : ∀ m, 0 < ps c f m b → ∃ a, a < m ∧ 0 < term c f a b
  | 0, h => by simp [ps] at h
  | m + 1, h => by
    simp only [ps] at h
    by_cases e : 0 < term c f m b
    · exact ⟨m, by omega, e⟩
    · obtain ⟨a, h1, h2⟩ := ps_pos c f b m (by omega)
      exact ⟨a, by omega, h2⟩
theorem tot_pos (f : Nat → Int) : ∀ n, 0 < tot f n → ∃ j, j < n ∧ 0 < f j
  | 0, h => by simp [tot] at h
  | n + 1, h => by
    simp only [tot] at h
    by_cases e : 0 < f n
    · exact ⟨n, by omega, e⟩
    · obtain ⟨j, h1, h2⟩ := tot_pos f n (by omega)
      exact ⟨j, by omega, h2⟩
theorem term_pos (c : UInt8) (f : Nat → Int) (a b : Nat) (h : 0 < term c f a b) : wy a b = c ∧ 0 < f a := by
  unfold term at h
  by_cases e : wy a b = c
  · rw [if_pos e] at h; exact ⟨e, h⟩
  · rw [if_neg e] at h; omega
theorem wy_cmp (x y : Int) (hx : 0 ≤ x) (hy : 0 ≤ y) : wy x.toNat y.toNat = cmpW x y := by
  unfold wy cmpW
  by_cases h : y > x
  · rw [if_pos h, if_pos (by omega)]
  · rw [if_neg h, if_neg (by omega)]
    by_cases h2 : y < x
    · rw [if_pos h2, if_pos (by omega)]
    · rw [if_neg h2, if_neg (by omega)]
theorem rows_nn (M : Nat) (hM : M ≤ 21) (l : List UInt8) : NN (rows M l fun _ => 1) := fun j => (rows_bd M hM l _ 1 one_bd j).1
theorem path_pos (s : ByteArray) (M : Nat) (hM : M ≤ 21) (x : Nat → Int) (hx : ∀ j, j ≤ s.size → 0 ≤ x j ∧ x j < M) (hh : Has (wf s) s.size x) : ∀ i, i ≤ s.size → 1 ≤ rows M ((L s).take i) (fun _ => 1) (x i).toNat := by
  intro i
  induction i with
  | zero => intro _; exact Int.le_refl 1
  | succ i ih =>
    intro hi
    have ih := ih (by omega)
    obtain ⟨c, hc, _⟩ := drop_c (L s) i (by rw [← L_size]; omega)
    have h0 := hx i (by omega)
    have h1 := hx (i + 1) hi
    have a := hh i (by omega)
    rw [wf_some s i c hc, ← wy_cmp _ _ h0.1 h1.1] at a
    rw [List.take_add_one, hc]
    show 1 ≤ rows M ((L s).take i ++ [c]) _ _
    rw [rows_snoc]
    have t := ps_term (rows_nn M hM ((L s).take i)) c (x (i + 1)).toNat M (x i).toNat (by omega)
    have e : term c (rows M ((L s).take i) fun _ => 1) (x i).toNat (x (i + 1)).toNat = rows M ((L s).take i) (fun _ => 1) (x i).toNat := by
      unfold term
      rw [if_pos a]
    unfold nxt
    omega
theorem path_of (s : ByteArray) (M : Nat) : ∀ i, i ≤ s.size → ∀ b, b < M → 0 < rows M ((L s).take i) (fun _ => 1) b →
    ∃ x : Nat → Int, (∀ j, j ≤ i → 0 ≤ x j ∧ x j < M) ∧ (∀ j, j < i → cmpW (x j) (x (j + 1)) = wf s j) ∧ x i = b := by
  intro i
  induction i with
  | zero => intro _ b hb _; exact ⟨fun _ => b, fun j _ => ⟨by show (0 : Int) ≤ b; omega, by show (b : Int) < M; omega⟩, fun j hj => by omega, rfl⟩
  | succ i ih =>
    intro hi b hb hp
    obtain ⟨c, hc, _⟩ := drop_c (L s) i (by rw [← L_size]; omega)
    rw [List.take_add_one, hc] at hp
    have hp : 0 < rows M ((L s).take i ++ [c]) (fun _ => 1) b := hp
    rw [rows_snoc] at hp
    obtain ⟨a, ha, ht⟩ := ps_pos c _ b M hp
    obtain ⟨hy, hf⟩ := term_pos c _ a b ht
    obtain ⟨x, h1, h2, h3⟩ := ih (by omega) a ha hf
    refine ⟨fun j => if j = i + 1 then (b : Int) else x j, fun j hj => ?_, fun j hj => ?_, ?_⟩
    · by_cases e : j = i + 1
      · show 0 ≤ (if j = i + 1 then (b : Int) else x j) ∧ (if j = i + 1 then (b : Int) else x j) < M
        rw [if_pos e]; omega
      · show 0 ≤ (if j = i + 1 then (b : Int) else x j) ∧ (if j = i + 1 then (b : Int) else x j) < M
        rw [if_neg e]; exact h1 j (by omega)
    · show cmpW (if j = i + 1 then (b : Int) else x j) (if j + 1 = i + 1 then (b : Int) else x (j + 1)) = wf s j
      rw [if_neg (by omega)]
      by_cases e : j = i
      · rw [if_pos (by omega), e, h3, ← wy_cmp _ _ (by omega) (by omega), wf_some s i c hc]
        simpa using hy
      · rw [if_neg (by omega)]
        exact h2 j (by omega)
    · show (if i + 1 = i + 1 then (b : Int) else x (i + 1)) = b
      rw [if_pos rfl]
theorem mny_pos (s : ByteArray) (h : cv s = true) (M : Nat) (hM : M ≤ 21) : 0 < mny (L s) M ↔ hiF (cV (wf s) s.size) (s.size + 1) < M := by
  have hw := wf_way s (cv_all s h)
  obtain ⟨j, h1, h2, h3⟩ := hi_mem (cV (wf s) s.size) (s.size + 1)
  have h2 := h2 (by omega)
  have ht : (L s).take s.size = L s := by rw [L_size, List.take_length]
  constructor
  · intro hp
    obtain ⟨b, hb, hf⟩ := tot_pos _ _ hp
    rw [← ht] at hf
    obtain ⟨x, g1, g2, g3⟩ := path_of s M s.size (Nat.le_refl _) b hb hf
    have := least_V (wf s) s.size hw x (fun i hi => (g1 i hi).1) g2 (s.size - j) j (by omega)
    have := (g1 j (by omega)).2
    omega
  · intro hp
    have hx : ∀ i, i ≤ s.size → 0 ≤ cV (wf s) s.size i ∧ cV (wf s) s.size i < M := fun i hi => by
      have a := cV_bd (wf s) s.size i hi
      have b := hi_ge (cV (wf s) s.size) (s.size + 1) i (by omega)
      omega
    have a := path_pos s M hM (cV (wf s) s.size) hx (has_V (wf s) s.size hw) s.size (Nat.le_refl _)
    rw [ht] at a
    have b := hx s.size (Nat.le_refl _)
    have c := tot_ge (rows_nn M hM (L s)) M (cV (wf s) s.size s.size).toNat (by omega)
    unfold mny
    omega
theorem least_fin (s : ByteArray) (h : cv s = true) (more : List Int) (k : Nat) (hk : 7000 ≤ k) :
    laws_FnContourLeast.l0 (k + 1) more s (leastV s) (loF (cV (wf s) s.size) (s.size + 1)) (hiF (cV (wf s) s.size) (s.size + 1)) ((s.size + 1 : Nat) : Int) = some true := by
  have h24 := cv_size s h
  have hm0 : 0 ≤ (more.length : Int) % 10 := Int.emod_nonneg _ (by omega)
  have hm1 : (more.length : Int) % 10 < 10 := Int.emod_lt_of_pos _ (by omega)
  simp only [laws_FnContourLeast.l0]
  rw [leastV_len, if_neg (by omega)]
  unfold leastV
  rw [cof_eq _ s.size (by omega) k (by omega)]
  simp only [bs]
  rw [cof_mk, toList_L, (has_cof s _).2 (has_V (wf s) s.size (wf_way s (cv_all s h))), if_pos rfl, low_zero s h, if_pos rfl]
  by_cases h8 : (s.size : Int) > 8
  · rw [if_pos h8]
  · rw [if_neg h8, implMany s (by omega) _ k (by omega)]
    simp only [bs]
    obtain ⟨M, hM⟩ : ∃ M : Nat, (more.length : Int) % 10 = (M : Int) - 1 := ⟨((more.length : Int) % 10 + 1).toNat, by omega⟩
    rw [hM] at hm0 hm1 ⊢
    have e : manyV s ((M : Int) - 1) = mny (L s) M := by
      unfold manyV
      rw [if_pos ⟨h, by omega, by omega, by omega⟩, show ((M : Int) - 1 + 1).toNat = M by omega]
    rw [e]
    have p := mny_pos s h M (by omega)
    congr 1
    rw [beq_iff_eq, decide_eq_decide, show (mny (L s) M > 0) = (0 < mny (L s) M) from rfl, p]
    omega
theorem least_loop (s : ByteArray) (h : cv s = true) (more : List Int) : ∀ (d k i : Nat), i + d = s.size + 1 → d + 7001 ≤ k →
    laws_FnContourLeast.l0 k more s (leastV s) (loF (cV (wf s) s.size) i) (hiF (cV (wf s) s.size) i) (i : Int) = some true := by
  have h24 := cv_size s h
  intro d
  induction d with
  | zero =>
    intro k i hi hk
    obtain ⟨k, rfl⟩ : ∃ m, k = m + 1 := ⟨k - 1, by omega⟩
    obtain rfl : i = s.size + 1 := by omega
    exact least_fin s h more k (by omega)
  | succ d ih =>
    intro k i hi hk
    obtain ⟨k, rfl⟩ : ∃ m, k = m + 1 := ⟨k - 1, by omega⟩
    have ih := ih k (i + 1) (by omega) (by omega)
    simp only [laws_FnContourLeast.l0]
    rw [leastV_len, if_pos (by omega), if_pos (by omega), w_succ (by omega), mn_min, mx_max]
    have e : rd (leastV s) (i : Int) = cV (wf s) s.size i := by unfold leastV; rw [ml_rd _ _ _ (by omega)]
    rw [e]
    exact ih
theorem FnContourLeast (l more : List Int) (_ : l.length ≤ 9223372036854775807) (hw : ∀ x ∈ l, (Lit.int .u8 x).wf = true) (_ : more.length ≤ 9223372036854775807) (_ : ∀ x ∈ more, (Lit.int .u8 x).wf = true) : ∃ k, laws_FnContourLeast.f k l more = some true := by
  refine ⟨9000, ?_⟩
  have go : ∀ b : Bool, laws_FnContourLeast.j0 9000 l more b = some true := by
    intro b
    simp only [laws_FnContourLeast.j0]
    by_cases hb : b = true
    · rw [if_pos hb]
    rw [if_neg hb]
    unfold spec_DrawContourLeast.f
    obtain ⟨l', e, hb⟩ := open_ok l hw
    obtain ⟨s, q, e2, hs, _, _⟩ := contour_draw 8959 hb 10 (by omega)
    rw [e]
    simp only [bs]
    rw [e2]
    simp only [bs]
    rw [implLeast s (by omega) _ (by omega), specLeast s (by omega) _ (by omega)]
    simp only [bs, bne_self_eq_false, Bool.false_eq_true, if_false]
    by_cases hv : cv s = true
    · have h24 := cv_size s hv
      have hl := leastV_len s
      rw [if_pos hv]
      simp only
      rw [sameI _ (by omega) _ (by omega)]
      simp only [bs, if_true, Bool.not_true]
      simp only [laws_FnContourLeast.j1]
      rw [if_neg (by simp), if_pos (by omega)]
      have e0 : rd (leastV s) 0 = cV (wf s) s.size 0 := by
        unfold leastV
        have := ml_rd (s.size + 1) (cV (wf s) s.size) 0 (by omega)
        exact this
      rw [e0]
      exact least_loop s hv more (s.size + 1) 8998 0 (by omega) (by omega)
    · rw [if_neg hv]
      simp only
      rw [sameI _ (by simp) _ (by simp)]
      simp only [bs, if_true, Bool.not_false]
      simp only [laws_FnContourLeast.j1]
      rw [sameI _ (by simp) _ (by simp)]
      simp
  unfold laws_FnContourLeast.f
  by_cases h : (l.length : Int) > 1048576
  · rw [if_pos h]
    exact go true
  · rw [if_neg h]
    exact go _
end Go.Proofs.YtnbjfkjpaaoooaaDoor.ZA
