/- The plain laws: what the Lean functions of the walks come to. No program and no memory in sight. No condition beyond what each theorem says. -/
import Derived.Test.YtnbjfkjpaaoooaaDoorXAx1
import Derived.Test.YtnbjfkjpaaoooaaDoorXAx3
import Derived.Test.YtnbjfkjpaaoooaaDoorXAx5
import Derived.Test.YtnbjfkjpaaoooaaDoorXAx11
import Derived.Test.YtnbjfkjpaaoooaaDoorXAx12
import Derived.Test.YtnbjfkjpaaoooaaDoorXAx13
import Derived.Test.YtnbjfkjpaaoooaaDoorXAx14
import Derived.Test.YtnbjfkjpaaoooaaDoorXAx16
import Derived.Test.YtnbjfkjpaaoooaaDoorXAx19
import Derived.Test.YtnbjfkjpaaoooaaDoorXAx20
import Derived.Test.YtnbjfkjpaaoooaaDoorXAx21
import Derived.Test.YtnbjfkjpaaoooaaDoorXAx22
import Derived.Lib.IndexLaws
import Derived.Lib.IndexBytes
namespace Go.Proofs.YtnbjfkjpaaoooaaDoor.ZA
open Go.RowKit Go.Proofs.YtnbjfkjpaaoooaaDoor.XA Go.Proofs.YtnbjfkjpaaoooaaDoorW.PrintWords Go.Proofs.YtnbjfkjpaaoooaaDoorW.PrintLast
set_option linter.unusedVariables false
set_option linter.unusedSimpArgs false
theorem w64 {x : Int} (h0 : -9223372036854775808 ≤ x) (h1 : x < 9223372036854775808) : wrap64 x = x := by unfold wrap64; omega
/-- Not by rfl: so simp leaves a proof, and the kernel need not compare the two sides by running them. -/
theorem bs {α β : Type} (a : α) (f : α → Option β) : (some a).bind f = f a := by
  have h : ∀ o : Option α, o = some a → o.bind f = f a := by
    rintro _ rfl
    rfl
  exact h _ rfl
abbrev L (s : ByteArray) : List UInt8 := s.data.toList
theorem L_size (s : ByteArray) : s.size = (L s).length := Lib.size_eq s
theorem ba_ext {x y : ByteArray} (h : L x = L y) : x = y := by
  obtain ⟨⟨a⟩⟩ := x
  obtain ⟨⟨b⟩⟩ := y
  simp only [L] at h
  rw [h]
theorem L_mk (l : List UInt8) : L ⟨l.toArray⟩ = l := by simp [L]
theorem mk_L (s : ByteArray) : (⟨(L s).toArray⟩ : ByteArray) = s := ba_ext (L_mk _)
theorem bt_n (s : ByteArray) (n : Nat) (c : UInt8) (h : (L s)[n]? = some c) : bt s (n : Int) = (c.toNat : Int) := by
  have hn : n < s.size := by rw [L_size]; exact (List.getElem?_eq_some_iff.1 h).1
  unfold bt
  rw [dif_pos (by simpa using hn)]
  have e : s[((n : Int).toNat)]'(by simpa using hn) = c := by
    have h2 := (List.getElem?_eq_some_iff.1 h).2
    rw [← h2]
    rfl
  rw [e]
theorem drop_c (l : List UInt8) (n : Nat) (h : n < l.length) : ∃ c, l[n]? = some c ∧ l.drop n = c :: l.drop (n + 1) :=
  ⟨l[n], List.getElem?_eq_getElem h, List.drop_eq_getElem_cons h⟩
theorem w_succ {n : Nat} (h : n < 4611686018427387904) : wrap64 ((n : Int) + 1) = ((n + 1 : Nat) : Int) := by
  rw [w64 (by omega) (by omega)]; omega
theorem round {k d : Nat} (h : d < k) : ∃ m, k = m + 1 := ⟨k - 1, by omega⟩
theorem u8_of {c : UInt8} {k : Nat} (hk : k < 256) : ((c.toNat : Int) = (k : Int)) ↔ c = UInt8.ofNat k := by
  constructor
  · intro h
    apply UInt8.toNat_inj.1
    rw [UInt8.toNat_ofNat_of_lt' hk]
    omega
  · rintro rfl
    rw [UInt8.toNat_ofNat_of_lt' hk]
theorem toList_L (s : ByteArray) : s.toList = L s := Lib.toList_data s
theorem dw_nil {α : Type} (p : α → Bool) : ∀ m : List α, m.dropWhile p = [] ↔ ∀ c ∈ m, p c = true
  | [] => by simp
  | a :: m => by
    rw [List.dropWhile_cons]
    by_cases h : p a = true
    · rw [if_pos h, dw_nil p m]
      simp [h]
    · rw [if_neg h]
      simp [h]
theorem dw_cons {α : Type} (p : α → Bool) : ∀ (l : List α) (a : α) (m : List α), l.dropWhile p = a :: m → p a = false
  | [], a, m, h => by simp at h
  | b :: l, a, m, h => by
    rw [List.dropWhile_cons] at h
    by_cases hb : p b = true
    · rw [if_pos hb] at h
      exact dw_cons p l a m h
    · rw [if_neg hb] at h
      injection h with h1 _
      rw [← h1]
      simpa using hb
theorem trim_nil (l cs : List UInt8) : Lib.trimS l cs = [] ↔ ∀ c ∈ l, cs.contains c = true := by
  have hr : ∀ m : List UInt8, m.dropWhile (cs.contains ·) = [] ↔ ∀ c ∈ m, cs.contains c = true := fun m => dw_nil _ m
  unfold Lib.trimS Lib.trimLeftS
  rw [hr]
  unfold Lib.trimRightS
  constructor
  · intro h
    have h1 : l.reverse.dropWhile (cs.contains ·) = [] := by
      cases hm : l.reverse.dropWhile (cs.contains ·) with
      | nil => rfl
      | cons a m =>
        have h2 : cs.contains a = false := dw_cons (cs.contains ·) l.reverse a m hm
        have := h a (by rw [hm]; simp)
        rw [h2] at this
        cases this
    intro c hc
    exact (hr l.reverse).1 h1 c (by simpa using hc)
  · intro h c hc
    have : c ∈ l.reverse.dropWhile (cs.contains ·) := by simpa using hc
    exact h c (by simpa using (List.dropWhile_sublist _).subset this)
theorem is_u (c : UInt8) : ((c.toNat : Int) = 117) ↔ c = 117 := u8_of (k := 117) (by omega)
theorem is_d (c : UInt8) : ((c.toNat : Int) = 100) ↔ c = 100 := u8_of (k := 100) (by omega)
theorem is_s (c : UInt8) : ((c.toNat : Int) = 115) ↔ c = 115 := u8_of (k := 115) (by omega)
/-- A way. -/
def wayC (c : UInt8) : Bool := c == 117 || (c == 100 || c == 115)
theorem wayC_cases (c : UInt8) (h : wayC c = true) : c = 117 ∨ c = 100 ∨ c = 115 := by
  simpa [wayC] using h
/-- A contour. -/
def cv (s : ByteArray) : Bool := (L s).all wayC && decide (s.size < 24)
theorem cvalid_loop (s : ByteArray) (hs : s.size ≤ 1100000) (d : Nat) : ∀ k n : Nat, n + d = s.size → d < k →
    spec_ContourValid.l0 k s (n : Int) = some (((L s).drop n).all wayC && decide (s.size < 24)) := by
  induction d with
  | zero =>
    intro k n hn hk
    obtain ⟨k, rfl⟩ := round hk
    simp only [spec_ContourValid.l0]
    rw [if_neg (by omega), show (L s).drop n = [] from List.drop_eq_nil_of_le (by rw [← L_size]; omega)]
    simp
    omega
  | succ d ih =>
    intro k n hn hk
    obtain ⟨k, rfl⟩ := round hk
    obtain ⟨c, hc, hd⟩ := drop_c (L s) n (by rw [← L_size]; omega)
    simp only [spec_ContourValid.l0]
    rw [if_pos (by omega), if_pos (by omega), bt_n s n c hc, w_succ (by omega), ih k (n + 1) (by omega) (by omega), hd, List.all_cons]
    by_cases h : c = 117
    · subst h
      rw [if_pos (by decide)]
      simp [wayC]
    · rw [if_neg (fun e => h ((is_u c).1 e))]
      by_cases h2 : c = 100
      · subst h2
        rw [if_pos (by decide)]
        simp [wayC]
      · rw [if_neg (fun e => h2 ((is_d c).1 e))]
        by_cases h3 : c = 115
        · subst h3
          rw [if_pos (by decide)]
          simp [wayC]
        · rw [if_neg (fun e => h3 ((is_s c).1 e))]
          have : wayC c = false := by simp [wayC, h, h2, h3]
          rw [this]
          simp
theorem specCV (s : ByteArray) (hs : s.size ≤ 1100000) (k : Nat) (hk : s.size < k) : spec_ContourValid.f k s = some (cv s) := by
  unfold spec_ContourValid.f cv
  have := cvalid_loop s hs s.size k 0 (by omega) hk
  rw [show ((0 : Nat) : Int) = 0 from rfl] at this
  rw [this, List.drop_zero]
theorem implCV (s : ByteArray) (hs : s.size ≤ 1100000) : impl_ContourValid.f s = some (cv s) := by
  unfold impl_ContourValid.f cv strings_Trim.f
  by_cases h : s.size < 24
  · rw [if_pos (by omega), if_pos ⟨by omega, by decide, by decide⟩, decide_eq_true h, Bool.and_true]
    simp only [bs, toList_L, L_mk]
    congr 1
    rw [Bool.eq_iff_iff, beq_iff_eq, trim_nil, List.all_eq_true]
    constructor
    · intro g c hc
      have := g c hc
      simpa [wayC] using this
    · intro g c hc
      have := g c hc
      simpa [wayC] using this
  · rw [if_neg (by omega), decide_eq_false h, Bool.and_false]
theorem cv_size (s : ByteArray) (h : cv s = true) : s.size < 24 := by
  unfold cv at h
  rw [Bool.and_eq_true, decide_eq_true_eq] at h
  exact h.2
theorem cv_all (s : ByteArray) (h : cv s = true) : ∀ c ∈ L s, wayC c = true := by
  unfold cv at h
  rw [Bool.and_eq_true, List.all_eq_true] at h
  exact h.1
theorem cv_mk (l : List UInt8) (h : ∀ c ∈ l, wayC c = true) (hn : l.length < 24) : cv ⟨l.toArray⟩ = true := by
  unfold cv
  rw [Bool.and_eq_true, List.all_eq_true, decide_eq_true_eq, L_size, L_mk]
  exact ⟨h, hn⟩
/-- The opposite way. -/
def ot (c : UInt8) : UInt8 := if c = 117 then 100 else if c = 100 then 117 else 115
theorem ot_way (c : UInt8) : wayC (ot c) = true := by
  unfold ot
  split
  · rfl
  · split <;> rfl
theorem ot_ot (c : UInt8) (h : wayC c = true) : ot (ot c) = c := by
  rcases wayC_cases c h with rfl | rfl | rfl <;> decide
theorem other_eq (c : UInt8) : spec_l3Other.f (c.toNat : Int) = some ⟨#[ot c]⟩ := by
  unfold spec_l3Other.f ot
  by_cases h : c = 117
  · rw [if_pos ((is_u c).2 h), if_pos h]
  · rw [if_neg (fun e => h ((is_u c).1 e)), if_neg h]
    by_cases h2 : c = 100
    · rw [if_pos ((is_d c).2 h2), if_pos h2]
    · rw [if_neg (fun e => h2 ((is_d c).1 e)), if_neg h2]
theorem turned_eq (c : UInt8) (h : wayC c = true) : impl_turnedWay.f (c.toNat : Int) = some ((ot c).toNat : Int) := by
  rcases wayC_cases c h with rfl | rfl | rfl <;> decide
theorem strOf (l : List UInt8) : strOfNums (l.map fun c => (c.toNat : Int)) = ⟨l.toArray⟩ := by
  unfold strOfNums
  rw [List.map_map]
  congr 2
  conv => rhs; rw [← List.map_id l]
  apply List.map_congr_left
  intro c _
  simp
theorem ba_push (l : List UInt8) (c : UInt8) : (⟨l.toArray⟩ : ByteArray) ++ ⟨#[c]⟩ = ⟨(l ++ [c]).toArray⟩ := ba_ext (by simp [L])
theorem sz_mk (l : List UInt8) : (⟨l.toArray⟩ : ByteArray).size = l.length := by rw [L_size, L_mk]
theorem sz_one (c : UInt8) : (⟨#[c]⟩ : ByteArray).size = 1 := rfl
theorem specTurn_loop (s : ByteArray) (hs : s.size ≤ 1000) (d : Nat) : ∀ (k n : Nat) (x : List UInt8), n + d = s.size → d < k → x.length = n →
    spec_ContourTurn.l0 k s ⟨x.toArray⟩ (n : Int) = some (⟨(x ++ ((L s).drop n).map ot).toArray⟩, true) := by
  induction d with
  | zero =>
    intro k n x hn hk hx
    obtain ⟨k, rfl⟩ := round hk
    simp only [spec_ContourTurn.l0]
    rw [if_neg (by omega), show (L s).drop n = [] from List.drop_eq_nil_of_le (by rw [← L_size]; omega)]
    simp
  | succ d ih =>
    intro k n x hn hk hx
    obtain ⟨k, rfl⟩ := round hk
    obtain ⟨c, hc, hd⟩ := drop_c (L s) n (by rw [← L_size]; omega)
    simp only [spec_ContourTurn.l0]
    rw [if_pos (by omega), if_pos (by omega), bt_n s n c hc, other_eq]
    simp only [bs]
    rw [sz_mk, sz_one, if_pos (by omega), ba_push, w_succ (by omega), ih k (n + 1) _ (by omega) (by omega) (by simp; omega), hd]
    simp
theorem implTurn_loop (s : ByteArray) (hs : s.size ≤ 1000) (hw : ∀ c ∈ L s, wayC c = true) (d : Nat) : ∀ (k n : Nat) (x : List UInt8), n + d = s.size → d < k → x.length = n →
    impl_ContourTurn.l0 k s (x.map fun c => (c.toNat : Int)) (s.size : Int) (n : Int) = some (⟨(x ++ ((L s).drop n).map ot).toArray⟩, true) := by
  induction d with
  | zero =>
    intro k n x hn hk hx
    obtain ⟨k, rfl⟩ := round hk
    simp only [impl_ContourTurn.l0]
    rw [if_neg (by omega), show (L s).drop n = [] from List.drop_eq_nil_of_le (by rw [← L_size]; omega), strOf]
    simp
  | succ d ih =>
    intro k n x hn hk hx
    obtain ⟨k, rfl⟩ := round hk
    obtain ⟨c, hc, hd⟩ := drop_c (L s) n (by rw [← L_size]; omega)
    simp only [impl_ContourTurn.l0]
    rw [if_pos (by omega), if_pos (by omega), if_pos (by omega), bt_n s n c hc, turned_eq c (hw c (List.mem_of_getElem? hc))]
    simp only [bs]
    have e : (x.map fun c => (c.toNat : Int)) ++ [((ot c).toNat : Int)] = (x ++ [ot c]).map fun c => (c.toNat : Int) := by simp
    rw [if_pos (by rw [List.length_map]; omega), e, w_succ (by omega), ih k (n + 1) _ (by omega) (by omega) (by simp; omega), hd]
    simp
/-- The turned contour. -/
def turnB (s : ByteArray) : ByteArray := ⟨((L s).map ot).toArray⟩
theorem specTurn (s : ByteArray) (hs : s.size ≤ 1100000) (k : Nat) (hk : s.size < k) : spec_ContourTurn.f k s = some (if cv s = true then (turnB s, true) else (⟨#[]⟩, false)) := by
  unfold spec_ContourTurn.f
  rw [specCV s hs k hk]
  simp only [bs]
  by_cases h : cv s = true
  · rw [if_pos h, if_pos h]
    have := specTurn_loop s (by have := cv_size s h; omega) s.size k 0 [] (by omega) hk rfl
    rw [show ((0 : Nat) : Int) = 0 from rfl, List.nil_append, List.drop_zero] at this
    exact this
  · rw [if_neg h, if_neg h]
theorem implTurn (s : ByteArray) (hs : s.size ≤ 1100000) (k : Nat) (hk : s.size < k) : impl_ContourTurn.f k s = some (if cv s = true then (turnB s, true) else (⟨#[]⟩, false)) := by
  unfold impl_ContourTurn.f
  rw [implCV s hs]
  simp only [bs]
  by_cases h : cv s = true
  · rw [if_pos h, if_pos h]
    have := implTurn_loop s (by have := cv_size s h; omega) (cv_all s h) s.size k 0 [] (by omega) hk rfl
    rw [show ((0 : Nat) : Int) = 0 from rfl, List.nil_append, List.drop_zero] at this
    exact this
  · rw [if_neg h, if_neg h]
theorem specBack_loop (s : ByteArray) (hs : s.size ≤ 1000) : ∀ (n k : Nat) (x : List UInt8), n ≤ s.size → n < k → x.length + n = s.size →
    spec_ContourBack.l0 k s ⟨x.toArray⟩ ((n : Int) - 1) = some (⟨(x ++ ((L s).take n).reverse.map ot).toArray⟩, true) := by
  intro n
  induction n with
  | zero =>
    intro k x hn hk hx
    obtain ⟨k, rfl⟩ := round hk
    simp only [spec_ContourBack.l0]
    rw [if_neg (by omega)]
    simp
  | succ n ih =>
    intro k x hn hk hx
    obtain ⟨k, rfl⟩ := round hk
    obtain ⟨c, hc, _⟩ := drop_c (L s) n (by rw [← L_size]; omega)
    simp only [spec_ContourBack.l0]
    rw [show ((n + 1 : Nat) : Int) - 1 = (n : Int) by omega, if_pos (by omega), if_pos (by omega), if_pos (by omega), bt_n s n c hc, other_eq]
    simp only [bs]
    rw [sz_mk, sz_one, if_pos (by omega), ba_push, w64 (x := (n : Int) - 1) (by omega) (by omega), ih k _ (by omega) (by omega) (by simp; omega), List.take_add_one, hc]
    simp
theorem implBack_loop (s : ByteArray) (hs : s.size ≤ 1000) (hw : ∀ c ∈ L s, wayC c = true) : ∀ (n k : Nat) (x : List UInt8), n ≤ s.size → n < k → x.length + n = s.size →
    impl_ContourBack.l0 k s (x.map fun c => (c.toNat : Int)) ((n : Int) - 1) = some (⟨(x ++ ((L s).take n).reverse.map ot).toArray⟩, true) := by
  intro n
  induction n with
  | zero =>
    intro k x hn hk hx
    obtain ⟨k, rfl⟩ := round hk
    simp only [impl_ContourBack.l0]
    rw [if_neg (by omega), strOf]
    simp
  | succ n ih =>
    intro k x hn hk hx
    obtain ⟨k, rfl⟩ := round hk
    obtain ⟨c, hc, _⟩ := drop_c (L s) n (by rw [← L_size]; omega)
    simp only [impl_ContourBack.l0]
    rw [show ((n + 1 : Nat) : Int) - 1 = (n : Int) by omega, if_pos (by omega), if_pos (by omega), if_pos (by omega), bt_n s n c hc, turned_eq c (hw c (List.mem_of_getElem? hc))]
    simp only [bs]
    have e : (x.map fun c => (c.toNat : Int)) ++ [((ot c).toNat : Int)] = (x ++ [ot c]).map fun c => (c.toNat : Int) := by simp
    rw [if_pos (by rw [List.length_map]; omega), e, w64 (x := (n : Int) - 1) (by omega) (by omega), ih k _ (by omega) (by omega) (by simp; omega), List.take_add_one, hc]
    simp
/-- The contour of the tones in the opposite order. -/
def backB (s : ByteArray) : ByteArray := ⟨((L s).reverse.map ot).toArray⟩
theorem specBack (s : ByteArray) (hs : s.size ≤ 1100000) (k : Nat) (hk : s.size < k) : spec_ContourBack.f k s = some (if cv s = true then (backB s, true) else (⟨#[]⟩, false)) := by
  unfold spec_ContourBack.f
  rw [specCV s hs k hk]
  simp only [bs]
  by_cases h : cv s = true
  · rw [if_pos h, if_pos h]
    have := specBack_loop s (by have := cv_size s h; omega) s.size k [] (by omega) hk (by simp)
    rw [L_size s, List.take_length, List.nil_append, ← L_size s] at this
    rw [w64 (by omega) (by omega)]
    exact this
  · rw [if_neg h, if_neg h]
theorem implBack (s : ByteArray) (hs : s.size ≤ 1100000) (k : Nat) (hk : s.size < k) : impl_ContourBack.f k s = some (if cv s = true then (backB s, true) else (⟨#[]⟩, false)) := by
  unfold impl_ContourBack.f
  rw [implCV s hs]
  simp only [bs]
  by_cases h : cv s = true
  · rw [if_pos h, if_pos h]
    have := implBack_loop s (by have := cv_size s h; omega) (cv_all s h) s.size k [] (by omega) hk (by simp)
    rw [L_size s, List.take_length, List.nil_append, ← L_size s] at this
    rw [w64 (by omega) (by omega)]
    exact this
  · rw [if_neg h, if_neg h]
/-- The list of a function's first values. -/
def ml (M : Nat) (F : Nat → Int) : List Int := (List.range M).map F
theorem ml_len (M : Nat) (F : Nat → Int) : (ml M F).length = M := by simp [ml]
theorem ml_rd (M : Nat) (F : Nat → Int) (n : Nat) (h : n < M) : rd (ml M F) (n : Int) = F n := by
  unfold rd ml
  rw [Int.toNat_natCast, List.getD_eq_getElem?_getD, List.getElem?_map, List.getElem?_range h]
  rfl
theorem ml_congr (M : Nat) (F G : Nat → Int) (h : ∀ j, j < M → F j = G j) : ml M F = ml M G := by
  unfold ml
  apply List.map_congr_left
  intro j hj
  exact h j (List.mem_range.1 hj)
theorem ml_set (M : Nat) (F : Nat → Int) (n : Nat) (v : Int) : (ml M F).set n v = ml M (fun j => if j = n then v else F j) := by
  apply List.ext_getElem?
  intro j
  unfold ml
  rw [List.getElem?_set]
  by_cases h : n = j
  · subst h
    rw [if_pos rfl]
    by_cases h2 : n < M
    · rw [if_pos (by simpa using h2), List.getElem?_map, List.getElem?_range h2]; simp
    · rw [if_neg (by simpa using h2), List.getElem?_eq_none (by simpa using Nat.le_of_not_lt h2)]
  · rw [if_neg h, List.getElem?_map, List.getElem?_map]
    by_cases h2 : j < M
    · rw [List.getElem?_range h2]; simp [Ne.symm h]
    · rw [List.getElem?_eq_none (by simpa using Nat.le_of_not_lt h2)]; rfl
theorem ml_rep (M : Nat) (v : Int) : List.replicate M v = ml M (fun _ => v) := by
  unfold ml
  apply List.ext_getElem?
  intro j
  rw [List.getElem?_map, List.getElem?_replicate]
  by_cases h2 : j < M
  · rw [if_pos h2, List.getElem?_range h2]; rfl
  · rw [if_neg h2, List.getElem?_eq_none (by simpa using Nat.le_of_not_lt h2)]; rfl
theorem ml_snoc (M : Nat) (F : Nat → Int) : ml M F ++ [F M] = ml (M + 1) F := by
  unfold ml
  rw [List.range_succ, List.map_append]; rfl
/-- The way from a step to another. -/
def wy (a b : Nat) : UInt8 := if b > a then 117 else if b < a then 100 else 115
theorem wy_way (a b : Nat) : wayC (wy a b) = true := by
  unfold wy
  split
  · rfl
  · split <;> rfl
theorem wy_ot (a b : Nat) : wy b a = ot (wy a b) := by
  unfold wy
  rcases Nat.lt_trichotomy a b with h | h | h
  · have e1 : ¬ b < a := by omega
    simp only [gt_iff_lt, h, e1, if_true, if_false]
    rfl
  · subst h
    simp only [gt_iff_lt, Nat.lt_irrefl, if_false]
    rfl
  · have e1 : ¬ a < b := by omega
    simp only [gt_iff_lt, h, e1, if_true, if_false]
    rfl
theorem l3Way_eq (a b : Nat) : spec_l3Way.f (a : Int) (b : Int) = some ⟨#[wy a b]⟩ := by
  unfold spec_l3Way.f wy
  by_cases h : b > a
  · rw [if_pos (by omega), if_pos h]
  · rw [if_neg (by omega), if_neg h]
    by_cases h2 : b < a
    · rw [if_pos (by omega), if_pos h2]
    · rw [if_neg (by omega), if_neg h2]
theorem wayBetween_eq (a b : Nat) : impl_wayBetween.f (a : Int) (b : Int) = some ((wy a b).toNat : Int) := by
  unfold impl_wayBetween.f wy
  by_cases h : b > a
  · rw [if_pos (by omega), if_pos h]; rfl
  · rw [if_neg (by omega), if_neg h]
    by_cases h2 : b < a
    · rw [if_pos (by omega), if_pos h2]; rfl
    · rw [if_neg (by omega), if_neg h2]; rfl
/-- What step a gives to step b by the way c. -/
def term (c : UInt8) (f : Nat → Int) (a b : Nat) : Int := if wy a b = c then f a else 0
def ps (c : UInt8) (f : Nat → Int) : Nat → Nat → Int
  | 0, _ => 0
  | a + 1, b => ps c f a b + term c f a b
def nxt (M : Nat) (c : UInt8) (f : Nat → Int) : Nat → Int := fun b => ps c f M b
def tot (f : Nat → Int) : Nat → Int
  | 0 => 0
  | n + 1 => tot f n + f n
def rows (M : Nat) : List UInt8 → (Nat → Int) → (Nat → Int)
  | [], f => f
  | c :: l, f => rows M l (nxt M c f)
def Bd (f : Nat → Int) (B : Nat) : Prop := ∀ j, 0 ≤ f j ∧ f j ≤ B
theorem term_bd {f : Nat → Int} {B : Nat} (h : Bd f B) (c : UInt8) (a b : Nat) : 0 ≤ term c f a b ∧ term c f a b ≤ B := by
  unfold term
  split
  · exact h a
  · omega
theorem ps_bd {f : Nat → Int} {B : Nat} (h : Bd f B) (c : UInt8) : ∀ a b, 0 ≤ ps c f a b ∧ ps c f a b ≤ ((a * B : Nat) : Int)
  | 0, b => by simp [ps]
  | a + 1, b => by
    have ih := ps_bd h c a b
    have t := term_bd h c a b
    have e : (a + 1) * B = a * B + B := Nat.succ_mul a B
    simp only [ps]
    omega
theorem ps_bd2 {f : Nat → Int} {B : Nat} (h : Bd f B) (hB : B ≤ 37822859361) (c : UInt8) (a b : Nat) (ha : a ≤ 21) : 0 ≤ ps c f a b ∧ ps c f a b ≤ 794280046581 := by
  have := ps_bd h c a b
  have e : a * B ≤ 21 * 37822859361 := Nat.mul_le_mul ha hB
  omega
theorem nxt_bd {f : Nat → Int} {B : Nat} (h : Bd f B) (M : Nat) (hM : M ≤ 21) (c : UInt8) : Bd (nxt M c f) (21 * B) := fun j => by
  have := ps_bd h c M j
  have e : M * B ≤ 21 * B := Nat.mul_le_mul_right B hM
  unfold nxt
  omega
theorem tot_bd {f : Nat → Int} {B : Nat} (h : Bd f B) : ∀ n, 0 ≤ tot f n ∧ tot f n ≤ ((n * B : Nat) : Int)
  | 0 => by simp [tot]
  | n + 1 => by
    have ih := tot_bd h n
    have t := h n
    have e : (n + 1) * B = n * B + B := Nat.succ_mul n B
    simp only [tot]
    omega
theorem tot_bd2 {f : Nat → Int} {B : Nat} (h : Bd f B) (hB : B ≤ 37822859361) (n : Nat) (ha : n ≤ 21) : 0 ≤ tot f n ∧ tot f n ≤ 794280046581 := by
  have := tot_bd h n
  have e : n * B ≤ 21 * 37822859361 := Nat.mul_le_mul ha hB
  omega
theorem ext_one (s : ByteArray) (n : Nat) (c : UInt8) (h : (L s)[n]? = some c) : (s.extract n (n + 1)).toList = [c] := by
  rw [toList_L]
  show (s.extract n (n + 1)).data.toList = [c]
  rw [Lib.extract_data]
  obtain ⟨h1, h2⟩ := List.getElem?_eq_some_iff.1 h
  show ((L s).drop n).take (n + 1 - n) = [c]
  rw [show n + 1 - n = 1 by omega, List.drop_eq_getElem_cons h1, h2]
  rfl
theorem one_list (c : UInt8) : (⟨#[c]⟩ : ByteArray).toList = [c] := by rw [toList_L]
section
set_option linter.unusedSectionVars false
variable (s : ByteArray) (hs : s.size ≤ 1000) (M : Nat) (hM : M ≤ 21) (c : UInt8) (i : Nat) (hc : (L s)[i]? = some c) (f : Nat → Int) (B : Nat) (hf : Bd f B) (hB : B ≤ 37822859361)
include hs hM hc hf hB
theorem spec_l3 (a : Nat) (ha : a < M) : ∀ (d k b : Nat), b + d = M →
    spec_ContourMany.l3 (k + d + 1) s ((M : Int) - 1) (ml M f) (i : Int) (ml M (fun j => ps c f a j + if j < b then term c f a j else 0)) (a : Int) (b : Int) =
    spec_ContourMany.l2 k s ((M : Int) - 1) (ml M f) (i : Int) (ml M (fun j => ps c f (a + 1) j)) ((a + 1 : Nat) : Int) := by
  have hi : i < s.size := by rw [L_size]; exact (List.getElem?_eq_some_iff.1 hc).1
  intro d
  induction d with
  | zero =>
    intro k b hb
    simp only [spec_ContourMany.l3]
    rw [if_neg (by omega), w_succ (by omega)]
    congr 1
    apply ml_congr
    intro j hj
    rw [if_pos (by omega)]
    rfl
  | succ d ih =>
    intro k b hb
    obtain ⟨q, hq⟩ : ∃ q, k + d + 1 = q := ⟨_, rfl⟩
    rw [show k + (d + 1) + 1 = q + 1 by omega]
    simp only [spec_ContourMany.l3]
    subst hq
    rw [if_pos (by omega), l3Way_eq]
    simp only [bs]
    rw [if_pos (by omega), w_succ (n := i) (by omega), if_pos (by omega), if_pos (by omega), Int.toNat_natCast, Int.toNat_natCast, ext_one s i c hc, one_list]
    by_cases h : wy a b = c
    · rw [if_pos (by rw [h]), if_pos (by omega), if_pos (by rw [ml_len]; omega), if_pos (by omega), if_pos (by rw [ml_len]; omega), Int.toNat_natCast, ml_rd _ _ _ (by omega), ml_rd _ _ _ (by omega), w_succ (n := b) (by omega), ml_set]
      rw [← ih k (b + 1) (by omega)]
      congr 1
      apply ml_congr
      intro j hj
      have p := ps_bd2 hf hB c a b (by omega)
      have t := hf a
      by_cases hj2 : j = b
      · subst hj2
        rw [if_pos rfl, if_neg (by omega), if_pos (by omega), w64 (by omega) (by omega)]
        unfold term
        rw [if_pos h]
        omega
      · rw [if_neg hj2]
        by_cases h3 : j < b
        · rw [if_pos h3, if_pos (by omega)]
        · rw [if_neg h3, if_neg (by omega)]
    · rw [if_neg (by simpa using h), w_succ (n := b) (by omega), ← ih k (b + 1) (by omega)]
      congr 1
      apply ml_congr
      intro j hj
      by_cases hj2 : j = b
      · subst hj2
        rw [if_neg (by omega), if_pos (by omega)]
        unfold term
        rw [if_neg h]
      · by_cases h3 : j < b
        · rw [if_pos h3, if_pos (by omega)]
        · rw [if_neg h3, if_neg (by omega)]
theorem spec_l2 : ∀ (d k a : Nat), a + d = M →
    spec_ContourMany.l2 (k + d * (M + 2) + 1) s ((M : Int) - 1) (ml M f) (i : Int) (ml M (fun j => ps c f a j)) (a : Int) =
    spec_ContourMany.l1 k s ((M : Int) - 1) (ml M (nxt M c f)) ((i + 1 : Nat) : Int) := by
  have hi : i < s.size := by rw [L_size]; exact (List.getElem?_eq_some_iff.1 hc).1
  intro d
  induction d with
  | zero =>
    intro k a ha
    rw [show k + 0 * (M + 2) + 1 = k + 1 by omega]
    simp only [spec_ContourMany.l2]
    rw [if_neg (by omega), w_succ (by omega)]
    obtain rfl : a = M := by omega
    rfl
  | succ d ih =>
    intro k a ha
    rw [show k + (d + 1) * (M + 2) + 1 = (k + d * (M + 2) + 1 + M + 1) + 1 by rw [Nat.succ_mul]; omega]
    simp only [spec_ContourMany.l2]
    rw [if_pos (by omega)]
    have := spec_l3 s hs M hM c i hc f B hf hB a (by omega) M (k + d * (M + 2) + 1) 0 (by omega)
    rw [show (ml M (fun j => ps c f a j + if j < 0 then term c f a j else 0)) = ml M (fun j => ps c f a j) from ml_congr _ _ _ (fun j _ => by simp), show ((0 : Nat) : Int) = 0 from rfl] at this
    rw [this, ih k (a + 1) (by omega)]
theorem impl_l3 (b : Nat) (hb : b < M) : ∀ (d k a : Nat), a + d = M →
    impl_ContourMany.l3 (k + d + 1) s ((M : Int) - 1) (ml M f) (i : Int) (ml M (fun j => if j < b then ps c f M j else if j = b then ps c f a j else 0)) (b : Int) (s.size : Int) (i : Int) (M : Int) (b : Int) (ml M f) (M : Int) (a : Int) =
    impl_ContourMany.l2 k s ((M : Int) - 1) (ml M f) (i : Int) (ml M (fun j => if j < b + 1 then ps c f M j else 0)) (s.size : Int) (i : Int) (M : Int) ((b + 1 : Nat) : Int) := by
  have hi : i < s.size := by rw [L_size]; exact (List.getElem?_eq_some_iff.1 hc).1
  intro d
  induction d with
  | zero =>
    intro k a ha
    simp only [impl_ContourMany.l3]
    rw [if_neg (by omega), w_succ (by omega)]
    obtain rfl : a = M := by omega
    congr 1
    apply ml_congr
    intro j hj
    by_cases h : j < b
    · rw [if_pos h, if_pos (by omega)]
    · rw [if_neg h]
      by_cases h2 : j = b
      · rw [if_pos h2, if_pos (by omega)]
      · rw [if_neg h2, if_neg (by omega)]
  | succ d ih =>
    intro k a ha
    obtain ⟨q, hq⟩ : ∃ q, k + d + 1 = q := ⟨_, rfl⟩
    rw [show k + (d + 1) + 1 = q + 1 by omega]
    simp only [impl_ContourMany.l3]
    subst hq
    rw [if_pos (by omega), if_pos (by omega), if_pos (by rw [ml_len]; omega), wayBetween_eq]
    simp only [bs]
    rw [if_pos (by omega), if_pos (by omega), bt_n s i c hc]
    by_cases h : wy a b = c
    · rw [if_pos (by rw [h]), if_pos (by omega), if_pos (by rw [ml_len]; omega), Int.toNat_natCast, ml_rd _ _ _ (by omega), ml_rd _ _ _ (by omega), w_succ (n := a) (by omega), ml_set, ← ih k (a + 1) (by omega)]
      congr 1
      apply ml_congr
      intro j hj
      have p := ps_bd2 hf hB c a b (by omega)
      have t := hf a
      by_cases hj2 : j = b
      · subst hj2
        rw [if_pos rfl, if_neg (by omega), if_pos rfl, if_neg (by omega), if_pos rfl, w64 (by omega) (by omega)]
        simp only [ps]
        unfold term
        rw [if_pos h]
      · rw [if_neg hj2, if_neg hj2, if_neg hj2]
    · rw [if_neg (fun e => h (UInt8.toNat_inj.1 (by omega))), w_succ (n := a) (by omega), ← ih k (a + 1) (by omega)]
      congr 1
      apply ml_congr
      intro j hj
      by_cases hj2 : j = b
      · subst hj2
        rw [if_neg (by omega), if_pos rfl, if_neg (by omega), if_pos rfl]
        simp only [ps]
        unfold term
        rw [if_neg h]
        omega
      · rw [if_neg hj2, if_neg hj2]
theorem impl_l2 : ∀ (d k b : Nat), b + d = M →
    impl_ContourMany.l2 (k + d * (M + 2) + 1) s ((M : Int) - 1) (ml M f) (i : Int) (ml M (fun j => if j < b then ps c f M j else 0)) (s.size : Int) (i : Int) (M : Int) (b : Int) =
    impl_ContourMany.l1 k s ((M : Int) - 1) (ml M (nxt M c f)) (s.size : Int) ((i + 1 : Nat) : Int) := by
  have hi : i < s.size := by rw [L_size]; exact (List.getElem?_eq_some_iff.1 hc).1
  intro d
  induction d with
  | zero =>
    intro k b hb
    rw [show k + 0 * (M + 2) + 1 = k + 1 by omega]
    simp only [impl_ContourMany.l2]
    rw [if_neg (by omega), w_succ (by omega)]
    congr 1
    apply ml_congr
    intro j hj
    rw [if_pos (by omega)]
    rfl
  | succ d ih =>
    intro k b hb
    rw [show k + (d + 1) * (M + 2) + 1 = (k + d * (M + 2) + 1 + M + 1) + 1 by rw [Nat.succ_mul]; omega]
    simp only [impl_ContourMany.l2]
    rw [if_pos (by omega), ml_len]
    have := impl_l3 s hs M hM c i hc f B hf hB b (by omega) M (k + d * (M + 2) + 1) 0 (by omega)
    rw [show (ml M (fun j => if j < b then ps c f M j else if j = b then ps c f 0 j else 0)) = ml M (fun j => if j < b then ps c f M j else 0) from ml_congr _ _ _ (fun j _ => by simp [ps]), show ((0 : Nat) : Int) = 0 from rfl] at this
    rw [this, ih k (b + 1) (by omega)]
end
theorem spec_l4 (M : Nat) (hM : M ≤ 21) (f : Nat → Int) (B : Nat) (hf : Bd f B) (hB : B ≤ 37822859361) : ∀ (d k a : Nat), a + d = M →
    spec_ContourMany.l4 (k + d + 1) ((M : Int) - 1) (ml M f) (tot f a) (a : Int) = some (tot f M) := by
  intro d
  induction d with
  | zero =>
    intro k a ha
    simp only [spec_ContourMany.l4]
    rw [if_neg (by omega), show a = M by omega]
  | succ d ih =>
    intro k a ha
    obtain ⟨q, hq⟩ : ∃ q, k + d + 1 = q := ⟨_, rfl⟩
    rw [show k + (d + 1) + 1 = q + 1 by omega]
    have t := tot_bd2 hf hB a (by omega)
    have t2 := hf a
    simp only [spec_ContourMany.l4]
    subst hq
    rw [if_pos (by omega), if_pos (by omega), if_pos (by rw [ml_len]; omega), ml_rd _ _ _ (by omega), w64 (by omega) (by omega), w_succ (by omega)]
    exact ih k (a + 1) (by omega)
theorem impl_l4 (M : Nat) (hM : M ≤ 21) (f : Nat → Int) (B : Nat) (hf : Bd f B) (hB : B ≤ 37822859361) : ∀ (d k a : Nat), a + d = M →
    impl_ContourMany.l4 (k + d + 1) (tot f a) (ml M f) (M : Int) (a : Int) = some (tot f M) := by
  intro d
  induction d with
  | zero =>
    intro k a ha
    simp only [impl_ContourMany.l4]
    rw [if_neg (by omega), show a = M by omega]
  | succ d ih =>
    intro k a ha
    obtain ⟨q, hq⟩ : ∃ q, k + d + 1 = q := ⟨_, rfl⟩
    rw [show k + (d + 1) + 1 = q + 1 by omega]
    have t := tot_bd2 hf hB a (by omega)
    have t2 := hf a
    simp only [impl_ContourMany.l4]
    subst hq
    rw [if_pos (by omega), if_pos (by omega), if_pos (by rw [ml_len]; omega), ml_rd _ _ _ (by omega), w64 (by omega) (by omega), w_succ (by omega)]
    exact ih k (a + 1) (by omega)
/-- The rounds that one way takes. -/
def rnd (M : Nat) : Nat := M * (M + 2) + 2
theorem pow_le (B d : Nat) : B ≤ B * 21 ^ d := Nat.le_mul_of_pos_right _ (Nat.pow_pos (by omega))
theorem pow_step (B d : Nat) : 21 * B * 21 ^ d = B * 21 ^ (d + 1) := by rw [Nat.pow_succ, Nat.mul_comm 21 B, Nat.mul_assoc, Nat.mul_comm 21 (21 ^ d)]
theorem spec_l1 (s : ByteArray) (hs : s.size ≤ 1000) (M : Nat) (h1 : 1 ≤ M) (hM : M ≤ 21) : ∀ (d k i : Nat) (f : Nat → Int) (B : Nat), i + d = s.size → Bd f B → B * 21 ^ d ≤ 37822859361 →
    spec_ContourMany.l1 (k + M + 1 + d * rnd M + 1) s ((M : Int) - 1) (ml M f) (i : Int) = some (tot (rows M ((L s).drop i) f) M) := by
  intro d
  induction d with
  | zero =>
    intro k i f B hi hf hB
    rw [show k + M + 1 + 0 * rnd M + 1 = (k + M + 1) + 1 by omega]
    simp only [spec_ContourMany.l1]
    rw [if_neg (by omega), show (L s).drop i = [] from List.drop_eq_nil_of_le (by rw [← L_size]; omega)]
    have := spec_l4 M hM f B hf (by simpa using hB) M k 0 (by omega)
    exact this
  | succ d ih =>
    intro k i f B hi hf hB
    obtain ⟨c, hc, hd⟩ := drop_c (L s) i (by rw [← L_size]; omega)
    have hB1 := pow_le B (d + 1)
    rw [show k + M + 1 + (d + 1) * rnd M + 1 = (k + M + 1 + d * rnd M + 1 + M * (M + 2) + 1) + 1 by rw [Nat.succ_mul]; unfold rnd; omega]
    simp only [spec_ContourMany.l1]
    have hw : wrap64 ((M : Int) - 1 + 1) = (M : Int) := by rw [w64 (by omega) (by omega)]; omega
    rw [if_pos (by omega), hw, if_pos (by omega), Int.toNat_natCast, if_pos (by omega), ml_rep]
    have := spec_l2 s hs M hM c i hc f B hf (by omega) M (k + M + 1 + d * rnd M + 1) 0 (by omega)
    rw [show (ml M (fun j => ps c f 0 j)) = ml M (fun _ => 0) from rfl, show ((0 : Nat) : Int) = 0 from rfl] at this
    rw [this, ih k (i + 1) (nxt M c f) (21 * B) (by omega) (nxt_bd hf M hM c) (by rw [pow_step]; exact hB), hd]
    rfl
theorem impl_l1 (s : ByteArray) (hs : s.size ≤ 1000) (M : Nat) (h1 : 1 ≤ M) (hM : M ≤ 21) : ∀ (d k i : Nat) (f : Nat → Int) (B : Nat), i + d = s.size → Bd f B → B * 21 ^ d ≤ 37822859361 →
    impl_ContourMany.l1 (k + M + 1 + d * rnd M + 1) s ((M : Int) - 1) (ml M f) (s.size : Int) (i : Int) = some (tot (rows M ((L s).drop i) f) M) := by
  intro d
  induction d with
  | zero =>
    intro k i f B hi hf hB
    rw [show k + M + 1 + 0 * rnd M + 1 = (k + M + 1) + 1 by omega]
    simp only [impl_ContourMany.l1]
    rw [if_neg (by omega), show (L s).drop i = [] from List.drop_eq_nil_of_le (by rw [← L_size]; omega), ml_len]
    have := impl_l4 M hM f B hf (by simpa using hB) M k 0 (by omega)
    exact this
  | succ d ih =>
    intro k i f B hi hf hB
    obtain ⟨c, hc, hd⟩ := drop_c (L s) i (by rw [← L_size]; omega)
    have hB1 := pow_le B (d + 1)
    rw [show k + M + 1 + (d + 1) * rnd M + 1 = (k + M + 1 + d * rnd M + 1 + M * (M + 2) + 1) + 1 by rw [Nat.succ_mul]; unfold rnd; omega]
    simp only [impl_ContourMany.l1]
    have hw : wrap64 ((M : Int) - 1 + 1) = (M : Int) := by rw [w64 (by omega) (by omega)]; omega
    rw [if_pos (by omega), hw, if_pos (by omega), Int.toNat_natCast, if_pos (by omega), ml_rep]
    simp only [bs]
    rw [ml_len]
    have := impl_l2 s hs M hM c i hc f B hf (by omega) M (k + M + 1 + d * rnd M + 1) 0 (by omega)
    rw [show (ml M (fun j => if j < 0 then ps c f M j else 0)) = ml M (fun _ => 0) from ml_congr _ _ _ (fun j _ => by simp), show ((0 : Nat) : Int) = 0 from rfl] at this
    rw [this, ih k (i + 1) (nxt M c f) (21 * B) (by omega) (nxt_bd hf M hM c) (by rw [pow_step]; exact hB), hd]
    rfl
theorem spec_l0 (s : ByteArray) (M : Nat) (hM : M ≤ 21) : ∀ (d k a : Nat), a + d = M →
    spec_ContourMany.l0 (k + d + 1) s ((M : Int) - 1) (ml a (fun _ => 1)) (a : Int) = spec_ContourMany.l1 k s ((M : Int) - 1) (ml M (fun _ => 1)) 0 := by
  intro d
  induction d with
  | zero =>
    intro k a ha
    simp only [spec_ContourMany.l0]
    rw [if_neg (by omega), show a = M by omega]
  | succ d ih =>
    intro k a ha
    obtain ⟨q, hq⟩ : ∃ q, k + d + 1 = q := ⟨_, rfl⟩
    rw [show k + (d + 1) + 1 = q + 1 by omega]
    simp only [spec_ContourMany.l0]
    subst hq
    rw [if_pos (by omega), if_pos (by rw [ml_len]; omega), w_succ (by omega), ml_snoc a (fun _ => 1)]
    exact ih k (a + 1) (by omega)
theorem impl_l0 (s : ByteArray) (M : Nat) (hM : M ≤ 21) : ∀ (d k a : Nat), a + d = M →
    impl_ContourMany.l0 (k + d + 1) s ((M : Int) - 1) (ml M (fun j => if j < a then 1 else 0)) (M : Int) (a : Int) = impl_ContourMany.l1 k s ((M : Int) - 1) (ml M (fun _ => 1)) (s.size : Int) 0 := by
  intro d
  induction d with
  | zero =>
    intro k a ha
    simp only [impl_ContourMany.l0]
    rw [if_neg (by omega), ml_congr M _ (fun _ => 1) (fun j hj => by rw [if_pos (by omega)])]
  | succ d ih =>
    intro k a ha
    obtain ⟨q, hq⟩ : ∃ q, k + d + 1 = q := ⟨_, rfl⟩
    rw [show k + (d + 1) + 1 = q + 1 by omega]
    simp only [impl_ContourMany.l0]
    subst hq
    rw [if_pos (by omega), if_pos (by omega), if_pos (by rw [ml_len]; omega), w_succ (by omega), Int.toNat_natCast, ml_set, ← ih k (a + 1) (by omega)]
    congr 1
    apply ml_congr
    intro j hj
    by_cases h : j = a
    · rw [if_pos h, if_pos (by omega)]
    · rw [if_neg h]
      by_cases h2 : j < a
      · rw [if_pos h2, if_pos (by omega)]
      · rw [if_neg h2, if_neg (by omega)]
/-- The number of lists of steps below M with a contour. -/
def mny (l : List UInt8) (M : Nat) : Int := tot (rows M l (fun _ => 1)) M
/-- What ContourMany comes to. -/
def manyV (s : ByteArray) (m : Int) : Int := if cv s = true ∧ s.size ≤ 8 ∧ 0 ≤ m ∧ m ≤ 20 then mny (L s) (m + 1).toNat else -1
theorem one_bd : Bd (fun _ => 1) 1 := fun _ => ⟨by show (0 : Int) ≤ 1; omega, by show (1 : Int) ≤ ((1 : Nat) : Int); omega⟩
theorem rnd_le (M : Nat) (hM : M ≤ 21) (d : Nat) (hd : d ≤ 8) : d * rnd M ≤ 8 * 485 := by
  apply Nat.mul_le_mul hd
  have : M * (M + 2) ≤ 21 * 23 := Nat.mul_le_mul hM (by omega)
  unfold rnd
  omega
theorem pow8 (d : Nat) (hd : d ≤ 8) : 1 * 21 ^ d ≤ 37822859361 := by
  have : 21 ^ d ≤ 21 ^ 8 := Nat.pow_le_pow_right (by omega) hd
  rw [show (21 : Nat) ^ 8 = 37822859361 by decide] at this
  omega
theorem implMany (s : ByteArray) (hs : s.size ≤ 1100000) (m : Int) (k : Nat) (hk : s.size + 6000 ≤ k) : impl_ContourMany.f k s m = some (manyV s m) := by
  obtain ⟨k, rfl⟩ : ∃ j, k = j + 1 := ⟨k - 1, by omega⟩
  have bad : impl_ContourMany.j0 (k + 1) s m true = some (-1) := by simp only [impl_ContourMany.j0]; rw [if_pos trivial]
  unfold impl_ContourMany.f manyV
  rw [implCV s hs]
  simp only [bs]
  by_cases h : cv s = true
  · rw [if_pos h]
    by_cases h2 : (s.size : Int) > 8
    · rw [if_pos h2, bad, if_neg (fun e => by omega)]
    · rw [if_neg h2]
      by_cases h3 : m < 0
      · rw [if_pos h3, bad, if_neg (fun e => by omega)]
      · rw [if_neg h3]
        by_cases h4 : m > 20
        · rw [decide_eq_true h4, bad, if_neg (fun e => by omega)]
        · rw [decide_eq_false h4, if_pos ⟨h, by omega, by omega, by omega⟩]
          obtain ⟨M, hMm⟩ : ∃ M : Nat, m = (M : Int) - 1 := ⟨(m + 1).toNat, by omega⟩
          subst hMm
          have hw : wrap64 ((M : Int) - 1 + 1) = (M : Int) := by rw [w64 (by omega) (by omega)]; omega
          have he : ((M : Int) - 1 + 1).toNat = M := by omega
          simp only [impl_ContourMany.j0]
          rw [if_neg (by simp), hw, if_pos (by omega), Int.toNat_natCast, if_pos (by omega), he, ml_rep]
          simp only [bs]
          rw [ml_len]
          have hr := rnd_le M (by omega) s.size (by omega)
          have a := impl_l0 s M (by omega) M (k - M - 1) 0 (by omega)
          rw [show k - M - 1 + M + 1 = k by omega, show (ml M (fun j => if j < 0 then (1 : Int) else 0)) = ml M (fun _ => 0) from ml_congr _ _ _ (fun j _ => by simp), show ((0 : Nat) : Int) = 0 from rfl] at a
          rw [a]
          have b := impl_l1 s (by omega) M (by omega) (by omega) s.size (k - M - 1 - M - 2 - s.size * rnd M) 0 (fun _ => 1) 1 (by omega) one_bd (pow8 _ (by omega))
          rw [show k - M - 1 - M - 2 - s.size * rnd M + M + 1 + s.size * rnd M + 1 = k - M - 1 by omega, show ((0 : Nat) : Int) = 0 from rfl, List.drop_zero] at b
          exact b
  · rw [if_neg h, bad, if_neg (fun e => h e.1)]
theorem specMany (s : ByteArray) (hs : s.size ≤ 1100000) (m : Int) (k : Nat) (hk : s.size + 6000 ≤ k) : spec_ContourMany.f k s m = some (manyV s m) := by
  obtain ⟨k, rfl⟩ : ∃ j, k = j + 1 := ⟨k - 1, by omega⟩
  have bad : spec_ContourMany.j0 (k + 1) s m true = some (-1) := by simp only [spec_ContourMany.j0]; rw [if_pos trivial]
  unfold spec_ContourMany.f manyV spec_l6In.f
  rw [specCV s hs _ (by omega)]
  simp only [bs]
  by_cases h : cv s = true
  · rw [if_pos h]
    by_cases h2 : (s.size : Int) > 8
    · rw [if_pos h2, bad, if_neg (fun e => by omega)]
    · rw [if_neg h2]
      by_cases h3 : m ≥ 0
      · rw [if_pos h3]
        simp only [bs]
        by_cases h4 : m ≤ 20
        · rw [decide_eq_true h4, if_pos ⟨h, by omega, by omega, by omega⟩]
          obtain ⟨M, hMm⟩ : ∃ M : Nat, m = (M : Int) - 1 := ⟨(m + 1).toNat, by omega⟩
          subst hMm
          have he : ((M : Int) - 1 + 1).toNat = M := by omega
          simp only [spec_ContourMany.j0]
          rw [if_neg (by simp), he]
          have hr := rnd_le M (by omega) s.size (by omega)
          have a := spec_l0 s M (by omega) M (k - M - 1) 0 (by omega)
          rw [show k - M - 1 + M + 1 = k by omega, show (ml 0 (fun _ => (1 : Int))) = [] from rfl, show ((0 : Nat) : Int) = 0 from rfl] at a
          rw [a]
          have b := spec_l1 s (by omega) M (by omega) (by omega) s.size (k - M - 1 - M - 2 - s.size * rnd M) 0 (fun _ => 1) 1 (by omega) one_bd (pow8 _ (by omega))
          rw [show k - M - 1 - M - 2 - s.size * rnd M + M + 1 + s.size * rnd M + 1 = k - M - 1 by omega, show ((0 : Nat) : Int) = 0 from rfl, List.drop_zero] at b
          exact b
        · rw [decide_eq_false h4]
          show spec_ContourMany.j0 (k + 1) s m true = _
          rw [bad, if_neg (fun e => h4 e.2.2.2)]
      · rw [if_neg h3]
        simp only [bs]
        show spec_ContourMany.j0 (k + 1) s m true = _
        rw [bad, if_neg (fun e => h3 e.2.2.1)]
  · rw [if_neg h, bad, if_neg (fun e => h e.1)]
theorem tot_congr (f g : Nat → Int) : ∀ n, (∀ j, j < n → f j = g j) → tot f n = tot g n
  | 0, _ => rfl
  | n + 1, h => by
    simp only [tot]
    rw [tot_congr f g n (fun j hj => h j (by omega)), h n (by omega)]
theorem tot_add (f g : Nat → Int) : ∀ n, tot (fun j => f j + g j) n = tot f n + tot g n
  | 0 => rfl
  | n + 1 => by
    simp only [tot]
    rw [tot_add f g n]
    omega
theorem tot_mul (f : Nat → Int) (c : Int) : ∀ n, tot f n * c = tot (fun j => f j * c) n
  | 0 => by simp [tot]
  | n + 1 => by
    simp only [tot]
    rw [Int.add_mul, tot_mul f c n]
theorem tot_mulr (f : Nat → Int) (c : Int) : ∀ n, c * tot f n = tot (fun j => c * f j) n
  | 0 => by simp [tot]
  | n + 1 => by
    simp only [tot]
    rw [Int.mul_add, tot_mulr f c n]
theorem tot_zero : ∀ n, tot (fun _ => 0) n = 0
  | 0 => rfl
  | n + 1 => by simp only [tot]; rw [tot_zero n]; rfl
theorem tot_const (c : Int) : ∀ n : Nat, tot (fun _ => c) n = c * n
  | 0 => by simp [tot]
  | n + 1 => by
    simp only [tot]
    rw [tot_const c n, show ((n + 1 : Nat) : Int) = (n : Int) + 1 by omega, Int.mul_add, Int.mul_one]
theorem tot_swap (h : Nat → Nat → Int) (m : Nat) : ∀ n, tot (fun j => tot (fun a => h a j) m) n = tot (fun a => tot (fun j => h a j) n) m
  | 0 => by
    show (0 : Int) = tot (fun _ => 0) m
    rw [tot_zero]
  | n + 1 => by
    simp only [tot]
    rw [tot_swap h m n, ← tot_add]
theorem tot_first (g : Nat → Int) : ∀ n, tot g (n + 1) = g 0 + tot (fun a => g (a + 1)) n
  | 0 => by simp [tot]
  | n + 1 => by
    rw [show tot g (n + 1 + 1) = tot g (n + 1) + g (n + 1) from rfl, tot_first g n]
    simp only [tot]
    omega
theorem tot_rev : ∀ (n : Nat) (g : Nat → Int), tot (fun a => g (n - 1 - a)) n = tot g n
  | 0, _ => rfl
  | n + 1, g => by
    have ih := tot_rev n (fun a => g (a + 1))
    rw [tot_first g n, ← ih]
    simp only [tot]
    rw [show n + 1 - 1 - n = 0 by omega, Int.add_comm]
    congr 1
    apply tot_congr
    intro j hj
    rw [show n + 1 - 1 - j = n - 1 - j + 1 by omega]
theorem ps_tot (c : UInt8) (f : Nat → Int) (b : Nat) : ∀ a, ps c f a b = tot (fun a => term c f a b) a
  | 0 => rfl
  | a + 1 => by simp only [ps, tot]; rw [ps_tot c f b a]
theorem wy_flip (M a j : Nat) (ha : a < M) (hj : j < M) : wy (M - 1 - a) (M - 1 - j) = ot (wy a j) := by
  rw [← wy_ot]
  unfold wy
  rcases Nat.lt_trichotomy a j with h | h | h
  · rw [if_neg (by omega), if_pos (by omega), if_neg (by omega), if_pos (by omega)]
  · rw [if_neg (by omega), if_neg (by omega), if_neg (by omega), if_neg (by omega)]
  · rw [if_pos (by omega), if_pos (by omega)]
theorem term_flip (M : Nat) (c : UInt8) (hc : wayC c = true) (f f' : Nat → Int) (hf : ∀ j, j < M → f' j = f (M - 1 - j)) (a j : Nat) (ha : a < M) (hj : j < M) :
    term (ot c) f' a j = term c f (M - 1 - a) (M - 1 - j) := by
  unfold term
  rw [wy_flip M a j ha hj]
  by_cases h : wy a j = ot c
  · rw [if_pos h, if_pos (by rw [h, ot_ot c hc]), hf a ha]
  · rw [if_neg h, if_neg (fun e => h (by rw [← e, ot_ot _ (wy_way a j)]))]
theorem nxt_flip (M : Nat) (c : UInt8) (hc : wayC c = true) (f f' : Nat → Int) (hf : ∀ j, j < M → f' j = f (M - 1 - j)) (j : Nat) (hj : j < M) :
    nxt M (ot c) f' j = nxt M c f (M - 1 - j) := by
  unfold nxt
  rw [ps_tot, ps_tot, ← tot_rev M (fun a => term c f a (M - 1 - j))]
  apply tot_congr
  intro a ha
  exact term_flip M c hc f f' hf a j ha hj
theorem rows_flip (M : Nat) : ∀ (l : List UInt8) (_ : ∀ c ∈ l, wayC c = true) (f f' : Nat → Int) (_ : ∀ j, j < M → f' j = f (M - 1 - j)) (j : Nat), j < M → rows M (l.map ot) f' j = rows M l f (M - 1 - j)
  | [], _, f, f', hf, j, hj => hf j hj
  | c :: l, hw, f, f', hf, j, hj =>
    rows_flip M l (fun x hx => hw x (List.mem_cons_of_mem _ hx)) (nxt M c f) (nxt M (ot c) f') (nxt_flip M c (hw c List.mem_cons_self) f f' hf) j hj
theorem mny_turn (l : List UInt8) (hw : ∀ c ∈ l, wayC c = true) (M : Nat) : mny (l.map ot) M = mny l M := by
  unfold mny
  rw [← tot_rev M (rows M l fun _ => 1)]
  apply tot_congr
  intro j hj
  exact rows_flip M l hw (fun _ => 1) (fun _ => 1) (fun _ _ => rfl) j hj
def dot (M : Nat) (f g : Nat → Int) : Int := tot (fun j => f j * g j) M
theorem term_adj (c : UInt8) (hc : wayC c = true) (f g : Nat → Int) (a j : Nat) : term c f a j * g j = f a * term (ot c) g j a := by
  unfold term
  rw [wy_ot a j]
  by_cases h : wy a j = c
  · rw [if_pos h, if_pos (by rw [h])]
  · rw [if_neg h, if_neg (fun e => h (by rw [← ot_ot c hc, ← e, ot_ot _ (wy_way a j)])), Int.zero_mul, Int.mul_zero]
theorem nxt_adj (M : Nat) (c : UInt8) (hc : wayC c = true) (f g : Nat → Int) : dot M (nxt M c f) g = dot M f (nxt M (ot c) g) := by
  unfold dot nxt
  rw [tot_congr (fun j => ps c f M j * g j) (fun j => tot (fun a => term c f a j * g j) M) M (fun j _ => by rw [ps_tot, tot_mul]), tot_swap]
  apply tot_congr
  intro a ha
  rw [ps_tot, tot_mulr]
  apply tot_congr
  intro j hj
  exact term_adj c hc f g a j
theorem rows_snoc (M : Nat) (c : UInt8) : ∀ (l : List UInt8) (f : Nat → Int), rows M (l ++ [c]) f = nxt M c (rows M l f)
  | [], _ => rfl
  | a :: l, f => rows_snoc M c l (nxt M a f)
theorem rows_adj (M : Nat) (g : Nat → Int) : ∀ (l : List UInt8) (_ : ∀ c ∈ l, wayC c = true) (f : Nat → Int), dot M (rows M l f) g = dot M f (rows M (l.reverse.map ot) g)
  | [], _, _ => rfl
  | c :: l, hw, f => by
    have ih := rows_adj M g l (fun x hx => hw x (List.mem_cons_of_mem _ hx)) (nxt M c f)
    rw [List.reverse_cons, List.map_append, show [c].map ot = [ot c] from rfl, rows_snoc, ← nxt_adj M c (hw c List.mem_cons_self)]
    exact ih
theorem mny_back (l : List UInt8) (hw : ∀ c ∈ l, wayC c = true) (M : Nat) : mny (l.reverse.map ot) M = mny l M := by
  have h := rows_adj M (fun _ => 1) l hw (fun _ => 1)
  unfold dot at h
  unfold mny
  rw [tot_congr (rows M (l.reverse.map ot) fun _ => 1) (fun j => 1 * rows M (l.reverse.map ot) (fun _ => 1) j) M (fun j _ => by omega), ← h]
  exact tot_congr _ _ M (fun j _ => Int.mul_one _)
theorem ps_uds (f : Nat → Int) (b : Nat) : ∀ a, ps 117 f a b + ps 100 f a b + ps 115 f a b = tot f a
  | 0 => rfl
  | a + 1 => by
    have ih := ps_uds f b a
    simp only [ps, tot]
    have t : term 117 f a b + term 100 f a b + term 115 f a b = f a := by
      unfold term
      rcases wayC_cases _ (wy_way a b) with h | h | h
      · rw [if_pos h, if_neg (by rw [h]; decide), if_neg (by rw [h]; decide)]; omega
      · rw [if_neg (by rw [h]; decide), if_pos h, if_neg (by rw [h]; decide)]; omega
      · rw [if_neg (by rw [h]; decide), if_neg (by rw [h]; decide), if_pos h]; omega
    omega
theorem mny_uds (l : List UInt8) (M : Nat) : mny (l ++ [117]) M + mny (l ++ [100]) M + mny (l ++ [115]) M = mny l M * M := by
  unfold mny
  rw [rows_snoc, rows_snoc, rows_snoc, ← tot_add, ← tot_add, ← tot_const]
  apply tot_congr
  intro j _
  exact ps_uds _ j M
theorem rows_bd (M : Nat) (hM : M ≤ 21) : ∀ (l : List UInt8) (f : Nat → Int) (B : Nat), Bd f B → Bd (rows M l f) (B * 21 ^ l.length)
  | [], f, B, h => by
    show Bd f (B * 21 ^ 0)
    rw [Nat.pow_zero, Nat.mul_one]; exact h
  | c :: l, f, B, h => by
    have := rows_bd M hM l (nxt M c f) (21 * B) (nxt_bd h M hM c)
    rw [pow_step] at this
    exact this
theorem mny_bd (l : List UInt8) (hl : l.length ≤ 8) (M : Nat) (hM : M ≤ 21) : 0 ≤ mny l M ∧ mny l M ≤ 794280046581 :=
  tot_bd2 (rows_bd M hM l _ 1 one_bd) (pow8 _ hl) M hM
def NN (f : Nat → Int) : Prop := ∀ j, 0 ≤ f j
theorem term_nn {f : Nat → Int} (h : NN f) (c : UInt8) (a b : Nat) : 0 ≤ term c f a b := by
  unfold term
  split
  · exact h a
  · omega
theorem ps_nn {f : Nat → Int} (h : NN f) (c : UInt8) (b : Nat) : ∀ a, 0 ≤ ps c f a b
  | 0 => by simp [ps]
  | a + 1 => by
    have := ps_nn h c b a
    have := term_nn h c a b
    simp only [ps]
    omega
theorem ps_le {f g : Nat → Int} (h : ∀ j, f j ≤ g j) (c : UInt8) (b : Nat) : ∀ a, ps c f a b ≤ ps c g a b
  | 0 => by simp [ps]
  | a + 1 => by
    have := ps_le h c b a
    have t : term c f a b ≤ term c g a b := by
      unfold term
      split
      · exact h a
      · omega
    simp only [ps]
    omega
theorem rows_less (M : Nat) : ∀ (l : List UInt8) (f g : Nat → Int), NN g → (∀ j, f j ≤ g j) → NN (rows (M + 1) l g) ∧ ∀ j, rows M l f j ≤ rows (M + 1) l g j
  | [], _, _, hg, h => ⟨hg, h⟩
  | c :: l, f, g, hg, h => rows_less M l (nxt M c f) (nxt (M + 1) c g) (fun j => ps_nn hg c j (M + 1)) (fun j => by
      have h1 := ps_le h c j M
      have h2 := term_nn hg c M j
      unfold nxt
      simp only [ps]
      omega)
theorem tot_le {f g : Nat → Int} (h : ∀ j, f j ≤ g j) : ∀ n, tot f n ≤ tot g n
  | 0 => by simp [tot]
  | n + 1 => by
    have := tot_le h n
    have := h n
    simp only [tot]
    omega
theorem mny_less (l : List UInt8) (M : Nat) : mny l M ≤ mny l (M + 1) := by
  obtain ⟨h1, h2⟩ := rows_less M l (fun _ => 1) (fun _ => 1) (fun _ => by show (0 : Int) ≤ 1; omega) (fun _ => by show (1 : Int) ≤ 1; omega)
  have a := tot_le h2 M
  have b := h1 M
  unfold mny
  simp only [tot]
  omega
theorem L_append (a b : ByteArray) : L (a ++ b) = L a ++ L b := by simp [L]
theorem L_turn (s : ByteArray) : L (turnB s) = (L s).map ot := L_mk _
theorem L_back (s : ByteArray) : L (backB s) = (L s).reverse.map ot := L_mk _
theorem size_turn (s : ByteArray) : (turnB s).size = s.size := by rw [L_size, L_turn, List.length_map, ← L_size]
theorem size_back (s : ByteArray) : (backB s).size = s.size := by rw [L_size, L_back, List.length_map, List.length_reverse, ← L_size]
theorem map_ot_way (l : List UInt8) : (l.map ot).all wayC = true := by
  rw [List.all_eq_true]
  intro c hc
  obtain ⟨a, _, rfl⟩ := List.mem_map.1 hc
  exact ot_way a
theorem cv_turn (s : ByteArray) (h : cv s = true) : cv (turnB s) = true := by
  have := cv_size s h
  unfold cv
  rw [L_turn, map_ot_way, size_turn, decide_eq_true this]; rfl
theorem cv_back (s : ByteArray) (h : cv s = true) : cv (backB s) = true := by
  have := cv_size s h
  unfold cv
  rw [L_back, map_ot_way, size_back, decide_eq_true this]; rfl
theorem map_ot_ot (l : List UInt8) (h : ∀ c ∈ l, wayC c = true) : (l.map ot).map ot = l := by
  rw [List.map_map]
  conv => rhs; rw [← List.map_id l]
  apply List.map_congr_left
  intro c hc
  exact ot_ot c (h c hc)
theorem turn_turn (s : ByteArray) (h : cv s = true) : turnB (turnB s) = s := by
  apply ba_ext
  rw [L_turn, L_turn, map_ot_ot _ (cv_all s h)]
theorem back_turn (s : ByteArray) : backB (turnB s) = turnB (backB s) := by
  apply ba_ext
  rw [L_back, L_turn, L_turn, L_back, ← List.map_reverse]
theorem manyV_turn (s : ByteArray) (m : Int) : cv s = true → manyV (turnB s) m = manyV s m := by
  intro h
  unfold manyV
  rw [cv_turn s h, h, size_turn, L_turn, mny_turn _ (cv_all s h)]
theorem manyV_back (s : ByteArray) (m : Int) : cv s = true → manyV (backB s) m = manyV s m := by
  intro h
  unfold manyV
  rw [cv_back s h, h, size_back, L_back, mny_back _ (cv_all s h)]
theorem cv_snoc (s : ByteArray) (c : UInt8) (hc : wayC c = true) (h : cv s = true) (hn : s.size < 23) : cv (s ++ ⟨#[c]⟩) = true := by
  have h1 := cv_all s h
  unfold cv
  rw [Bool.and_eq_true, List.all_eq_true, decide_eq_true_eq, L_append, ByteArray.size_append, sz_one]
  refine ⟨fun x hx => ?_, by omega⟩
  rcases List.mem_append.1 hx with g | g
  · exact h1 x g
  · rw [show L ⟨#[c]⟩ = [c] from rfl, List.mem_singleton] at g
    rw [g]; exact hc
theorem manyV_snoc (s : ByteArray) (c : UInt8) (hc : wayC c = true) (h : cv s = true) (hn : s.size < 8) (M : Nat) (h1 : 1 ≤ M) (hM : M ≤ 21) : manyV (s ++ ⟨#[c]⟩) ((M : Int) - 1) = mny (L s ++ [c]) M := by
  unfold manyV
  rw [if_pos ⟨cv_snoc s c hc h (by omega), by rw [ByteArray.size_append, sz_one]; omega, by omega, by omega⟩, L_append, show ((M : Int) - 1 + 1).toNat = M by omega]
theorem xor_i64 (a b : Int) (h1 : 0 ≤ a) (h2 : a < 4611686018427387904) (h3 : 0 ≤ b) (h4 : b < 4611686018427387904) : 0 ≤ Go.bits .xor .i64 a b := by
  obtain ⟨A, rfl⟩ := Int.eq_ofNat_of_zero_le h1
  obtain ⟨B, rfl⟩ := Int.eq_ofNat_of_zero_le h3
  have hA : (BitVec.ofInt 64 (A : Int)).toNat = A := by
    rw [BitVec.ofInt_natCast, BitVec.toNat_ofNat]; exact Nat.mod_eq_of_lt (by omega)
  have hB : (BitVec.ofInt 64 (B : Int)).toNat = B := by
    rw [BitVec.ofInt_natCast, BitVec.toNat_ofNat]; exact Nat.mod_eq_of_lt (by omega)
  have hx : A ^^^ B < 2 ^ 62 := Nat.xor_lt_two_pow (by omega) (by omega)
  show 0 ≤ IntKind.i64.wrap ((BitVec.ofInt 64 (A : Int) ^^^ BitVec.ofInt 64 (B : Int)).toNat : Int)
  rw [BitVec.toNat_xor, hA, hB, i64_w]
  unfold wrap64
  omega
/-- The bytes that are read. -/
def Bytes (l : List Int) : Prop := l.length ≤ 2000 ∧ ∀ x ∈ l, 0 ≤ x ∧ x ≤ 255
theorem rd_byte {l : List Int} (h : Bytes l) (i : Int) : 0 ≤ rd l i ∧ rd l i ≤ 255 := by
  unfold rd
  rw [List.getD_eq_getElem?_getD]
  cases hx : l[i.toNat]? with
  | none => simp
  | some x => exact h.2 x (List.mem_of_getElem? hx)
theorem pick_ok (k : Nat) {l : List Int} (h : Bytes l) (p n : Int) (hp : 0 ≤ p ∧ p ≤ 1000000) (hn : 1 ≤ n ∧ n ≤ 1000000) : ∃ v, spec_l6Rd_pick.f (k + 1) l p n = some (v, p + 1) ∧ 0 ≤ v ∧ v < n := by
  obtain ⟨hlen, hb⟩ := id h
  unfold spec_l6Rd_pick.f
  rw [if_neg (by omega), w64 (by omega) (by omega)]
  simp only [spec_l6Rd_pick.j0]
  by_cases h0 : (l.length : Int) = 0
  · rw [if_pos (by simpa using h0)]
    exact ⟨0, rfl, by omega, by omega⟩
  · rw [if_neg (by simpa using h0)]
    have hL : 0 < (l.length : Int) := by omega
    rw [show p + 1 - 1 = p by omega, w64 (x := p) (by omega) (by omega)]
    have fin : ∀ x : Int, 0 ≤ x → ∃ v, some (Int.tmod x n, p + 1) = some (v, p + 1) ∧ 0 ≤ v ∧ v < n := fun x hx =>
      ⟨_, rfl, by rw [Int.tmod_eq_emod_of_nonneg hx]; exact Int.emod_nonneg _ (by omega), by rw [Int.tmod_eq_emod_of_nonneg hx]; exact Int.emod_lt_of_pos _ (by omega)⟩
    by_cases h1 : p < (l.length : Int)
    · rw [if_pos h1, if_pos hp.1, if_neg (by omega)]
      have hr := rd_byte h p
      rw [w64 (by omega) (by omega)]
      exact fin _ hr.1
    · rw [if_neg h1, if_neg h0]
      have e1 : Int.tmod p (l.length : Int) = p % (l.length : Int) := Int.tmod_eq_emod_of_nonneg hp.1
      have m0 := Int.emod_nonneg p (show (l.length : Int) ≠ 0 by omega)
      have m1 := Int.emod_lt_of_pos p hL
      have e2 : Int.tmod (wrap64 (wrap64 (p * 7) + 3)) (l.length : Int) = (p * 7 + 3) % (l.length : Int) := by
        rw [w64 (x := p * 7) (by omega) (by omega), w64 (by omega) (by omega)]
        exact Int.tmod_eq_emod_of_nonneg (by omega)
      have n0 := Int.emod_nonneg (p * 7 + 3) (show (l.length : Int) ≠ 0 by omega)
      have n1 := Int.emod_lt_of_pos (p * 7 + 3) hL
      have e3 : Int.tdiv p (l.length : Int) = p / (l.length : Int) := Int.tdiv_eq_ediv_of_nonneg hp.1
      have d0 : 0 ≤ p / (l.length : Int) := Int.ediv_nonneg hp.1 (by omega)
      have d1 : p / (l.length : Int) ≤ p := Int.ediv_le_self _ hp.1
      rw [e1, e2, e3, if_pos m0, if_pos m1, if_pos n0, if_pos n1, if_neg (by omega)]
      have r1 := rd_byte h (p % (l.length : Int))
      have r2 := rd_byte h ((p * 7 + 3) % (l.length : Int))
      generalize rd l (p % (l.length : Int)) = a at r1 ⊢
      generalize rd l ((p * 7 + 3) % (l.length : Int)) = b at r2 ⊢
      generalize p / (l.length : Int) = d at d0 d1 ⊢
      have s1 : wrap64 (wrap64 (wrap64 (wrap64 (wrap64 a * 131) + wrap64 (wrap64 b * 1117)) + wrap64 (p * 29)) + wrap64 (wrap64 d * 53)) = a * 131 + b * 1117 + p * 29 + d * 53 := by
        rw [w64 (x := a) (by omega) (by omega), w64 (x := b) (by omega) (by omega), w64 (x := d) (by omega) (by omega), w64 (x := a * 131) (by omega) (by omega), w64 (x := b * 1117) (by omega) (by omega),
          w64 (x := p * 29) (by omega) (by omega), w64 (x := d * 53) (by omega) (by omega), w64 (x := a * 131 + b * 1117) (by omega) (by omega), w64 (x := a * 131 + b * 1117 + p * 29) (by omega) (by omega), w64 (by omega) (by omega)]
      rw [s1]
      refine fin _ (xor_i64 _ _ (by omega) (by omega) ?_ ?_)
      · rw [Int.tdiv_eq_ediv_of_nonneg (by omega), w64 (by omega) (by omega)]; omega
      · rw [Int.tdiv_eq_ediv_of_nonneg (by omega), w64 (by omega) (by omega)]; omega
theorem open_ok (l : List Int) (hw : ∀ x ∈ l, (Lit.int .u8 x).wf = true) : ∃ l', spec_l6Open.f l = some (l', 0) ∧ Bytes l' := by
  have hb : ∀ x ∈ l, 0 ≤ x ∧ x ≤ 255 := fun x hx => by
    have := hw x hx
    simp only [Lit.wf, IntKind.min, IntKind.max, IntKind.signed, IntKind.bits, Bool.and_eq_true, decide_eq_true_eq, Bool.false_eq_true, if_false] at this
    omega
  unfold spec_l6Open.f
  by_cases h : (l.length : Int) > 2000
  · rw [if_pos h, if_pos (by omega)]
    exact ⟨_, rfl, by simp; omega, fun x hx => hb x (List.mem_of_mem_take hx)⟩
  · rw [if_neg h]
    exact ⟨_, rfl, by omega, hb⟩
theorem of_ok (k : Nat) {l : List Int} (h : Bytes l) (p : Int) (hp : 0 ≤ p ∧ p ≤ 1000000) (ls : List ByteArray) (hn : 1 ≤ ls.length) (hn2 : ls.length ≤ 1000000) : ∃ e, e ∈ ls ∧ spec_l6Rd_of.f (k + 1) l p ls = some (e, p + 1) := by
  obtain ⟨v, hv, h0, h1⟩ := pick_ok k h p (ls.length : Int) hp (by omega)
  unfold spec_l6Rd_of.f
  rw [hv]
  simp only [bs]
  rw [if_pos h0, if_pos h1]
  have hl : v.toNat < ls.length := by omega
  refine ⟨ls[v.toNat], List.getElem_mem hl, ?_⟩
  unfold rdOf
  rw [List.getD_eq_getElem?_getD, List.getElem?_eq_getElem hl]
  rfl
theorem contour_loop {l : List Int} (h : Bytes l) (x6 : Int) (hx : x6 ≤ 30) (d : Nat) : ∀ (k : Nat) (s : ByteArray) (x7 p : Int), x7 + d = x6 → 0 ≤ x7 → 0 ≤ p ∧ p + d ≤ 900 → s.size + d ≤ 80 →
    ∃ r q, spec_l91Contour.l0 (k + 1 + d + 1) s x6 x7 l p = some (r, q) ∧ r.size ≤ 81 ∧ 0 ≤ q ∧ q ≤ 902 := by
  induction d with
  | zero =>
    intro k s x7 p hd h0 hp hs
    simp only [spec_l91Contour.l0]
    rw [if_neg (by omega)]
    obtain ⟨v, e, h0, h1⟩ := pick_ok k h p 20 (by omega) (by omega)
    rw [show k + 1 + 0 = k + 1 by omega, e]
    simp only [bs]
    by_cases c0 : v = 0
    · rw [if_pos c0]
      obtain ⟨t, ht, e2⟩ := of_ok k h (p + 1) (by omega) [⟨#[120]⟩, ⟨#[85]⟩, ⟨#[32]⟩] (by decide) (by decide)
      rw [e2]
      simp only [bs]
      have hz : t.size = 1 := by
        simp at ht
        rcases ht with rfl | rfl | rfl <;> decide
      rw [if_pos (by omega)]
      exact ⟨_, _, rfl, by rw [ByteArray.size_append]; omega, by omega, by omega⟩
    · rw [if_neg c0]
      exact ⟨_, _, rfl, by omega, by omega, by omega⟩
  | succ d ih =>
    intro k s x7 p hd h0 hp hs
    obtain ⟨q, hq⟩ : ∃ q, k + 1 + d + 1 = q := ⟨_, rfl⟩
    rw [show k + 1 + (d + 1) + 1 = q + 1 by omega]
    simp only [spec_l91Contour.l0]
    rw [if_pos (by omega)]
    obtain ⟨t, ht, e2⟩ := of_ok (k + 1 + d) h p (by omega) [⟨#[117]⟩, ⟨#[100]⟩, ⟨#[115]⟩, ⟨#[117]⟩, ⟨#[100]⟩] (by decide) (by decide)
    rw [hq] at e2
    rw [e2]
    simp only [bs]
    have hz : t.size = 1 := by
      simp at ht
      rcases ht with rfl | rfl | rfl | rfl | rfl <;> decide
    rw [if_pos (by omega), w64 (by omega) (by omega), ← hq]
    exact ih k (s ++ t) (x7 + 1) (p + 1) (by omega) (by omega) (by omega) (by rw [ByteArray.size_append]; omega)
theorem contour_draw (k : Nat) {l : List Int} (h : Bytes l) (a : Int) (ha : 0 ≤ a ∧ a ≤ 20) : ∃ r q, spec_l91Contour.f (k + 40) l 0 a = some (r, q) ∧ r.size ≤ 81 ∧ 0 ≤ q ∧ q ≤ 902 := by
  unfold spec_l91Contour.f
  rw [w64 (by omega) (by omega)]
  obtain ⟨v, e, h0, h1⟩ := pick_ok (k + 39) h 0 (a + 1) (by omega) (by omega)
  rw [show k + 39 + 1 = k + 40 by omega] at e
  rw [e]
  simp only [bs]
  obtain ⟨d, hd⟩ : ∃ d : Nat, (d : Int) = v := ⟨v.toNat, by omega⟩
  have hb : (⟨#[]⟩ : ByteArray).size = 0 := rfl
  have := contour_loop h v (by omega) d (k + 38 - d) ⟨#[]⟩ 0 (0 + 1) (by omega) (by omega) (by omega) (by omega)
  rw [show k + 38 - d + 1 + d + 1 = k + 40 by omega] at this
  exact this
theorem turn_core (k : Nat) (hk : 7000 ≤ k) (s : ByteArray) (hs : s.size ≤ 100) (h : cv s = true) : laws_FnContourTurn.j0 (k + 1) s (turnB s) true (turnB s) true (!true) = some true := by
  have a := implTurn (turnB s) (by rw [size_turn]; omega) k (by rw [size_turn]; omega)
  have b := implBack (turnB s) (by rw [size_turn]; omega) k (by rw [size_turn]; omega)
  have c := implBack s (by omega) k (by omega)
  have d := implTurn (backB s) (by rw [size_back]; omega) k (by rw [size_back]; omega)
  have e := implMany (turnB s) (by rw [size_turn]; omega) 4 k (by rw [size_turn]; omega)
  have f := implMany s (by omega) 4 k (by omega)
  rw [if_pos (cv_turn s h)] at a b
  rw [if_pos h] at c
  rw [if_pos (cv_back s h)] at d
  simp only [laws_FnContourTurn.j0]
  rw [a, b, c, e, f]
  simp only [bs]
  rw [d, turn_turn s h, back_turn s, manyV_turn s 4 h]
  simp
theorem FnContourTurn (l : List Int) (_ : l.length ≤ 9223372036854775807) (hw : ∀ x ∈ l, (Lit.int .u8 x).wf = true) : ∃ k, laws_FnContourTurn.f k l = some true := by
  refine ⟨8000, ?_⟩
  unfold laws_FnContourTurn.f spec_DrawContourTurn.f
  by_cases h : (l.length : Int) > 1048576
  · rw [if_pos h]
  rw [if_neg h]
  obtain ⟨l', e, hb⟩ := open_ok l hw
  obtain ⟨s, q, e2, hs, _, _⟩ := contour_draw 7960 hb 8 (by omega)
  rw [e]
  simp only [bs]
  rw [e2]
  simp only [bs]
  rw [implTurn s (by omega) _ (by omega), specTurn s (by omega) _ (by omega)]
  simp only [bs]
  by_cases hv : cv s = true
  · rw [if_pos hv]
    simp only [bne_self_eq_false, Bool.false_eq_true, if_false, if_true]
    exact turn_core 7999 (by omega) s (by omega) hv
  · rw [if_neg hv]
    simp only [bne_self_eq_false, Bool.false_eq_true, if_false, if_true]
    simp [laws_FnContourTurn.j0]
theorem many_core (k : Nat) (hk : 7000 ≤ k) (s : ByteArray) (hs : s.size ≤ 100) (m : Int) : laws_FnContourMany.j0 (k + 1) s m (manyV s m) (manyV s m) (decide (manyV s m < 0)) = some true := by
  simp only [laws_FnContourMany.j0]
  by_cases h : cv s = true ∧ s.size ≤ 8 ∧ 0 ≤ m ∧ m ≤ 20
  · obtain ⟨hv, h8, hm0, hm1⟩ := h
    obtain ⟨M, hMm⟩ : ∃ M : Nat, m = (M : Int) - 1 := ⟨(m + 1).toNat, by omega⟩
    have hbd := mny_bd (L s) (by rw [← L_size]; exact h8) M (by omega)
    have hout : manyV s m = mny (L s) M := by
      unfold manyV
      rw [if_pos ⟨hv, h8, hm0, hm1⟩, show (m + 1).toNat = M by omega]
    have hu := implMany (s ++ ⟨#[117]⟩) (by rw [ByteArray.size_append, sz_one]; omega) m k (by rw [ByteArray.size_append, sz_one]; omega)
    have hd := implMany (s ++ ⟨#[100]⟩) (by rw [ByteArray.size_append, sz_one]; omega) m k (by rw [ByteArray.size_append, sz_one]; omega)
    have hss := implMany (s ++ ⟨#[115]⟩) (by rw [ByteArray.size_append, sz_one]; omega) m k (by rw [ByteArray.size_append, sz_one]; omega)
    have hb := implBack s (by omega) k (by omega)
    have hl := implMany s (by omega) (wrap64 (m - 1)) k (by omega)
    have hbm := implMany (backB s) (by rw [size_back]; omega) m k (by rw [size_back]; omega)
    rw [if_pos hv] at hb
    rw [manyV_back s m hv] at hbm
    rw [hu, hd, hss, hb, hl]
    simp only [bs, if_true]
    rw [hbm]
    simp only [bs, if_true]
    have hless : manyV s (wrap64 (m - 1)) ≤ manyV s m := by
      rw [w64 (by omega) (by omega), hout]
      unfold manyV
      by_cases h0 : m = 0
      · rw [if_neg (fun e => by omega)]; omega
      · rw [if_pos ⟨hv, h8, by omega, by omega⟩]
        have := mny_less (L s) (M - 1)
        rw [show M - 1 + 1 = M by omega] at this
        rw [show (m - 1 + 1).toNat = M - 1 by omega]
        exact this
    rw [decide_eq_true hless, decide_eq_false (by omega), if_neg (by simp), if_pos (by omega)]
    by_cases h88 : s.size = 8
    · rw [if_pos (by omega)]
    · rw [if_neg (by omega)]
      have a := manyV_snoc s 117 rfl hv (by omega) M (by omega) (by omega)
      have b := manyV_snoc s 100 rfl hv (by omega) M (by omega) (by omega)
      have c := manyV_snoc s 115 rfl hv (by omega) M (by omega) (by omega)
      have z := mny_uds (L s) M
      have ba := mny_bd (L s ++ [117]) (by rw [List.length_append, ← L_size]; simp; omega) M (by omega)
      have bb := mny_bd (L s ++ [100]) (by rw [List.length_append, ← L_size]; simp; omega) M (by omega)
      have bc := mny_bd (L s ++ [115]) (by rw [List.length_append, ← L_size]; simp; omega) M (by omega)
      rw [← hMm] at a b c
      rw [a, b, c, hout]
      have hw : wrap64 (m + 1) = (M : Int) := by rw [w64 (by omega) (by omega)]; omega
      rw [hw, ← z, w64 (x := mny (L s ++ [117]) M + mny (L s ++ [100]) M) (by omega) (by omega)]
      rw [if_pos rfl]
  · have : manyV s m = -1 := by unfold manyV; rw [if_neg h]
    rw [this]
    simp
theorem FnContourMany (l : List Int) (_ : l.length ≤ 9223372036854775807) (hw : ∀ x ∈ l, (Lit.int .u8 x).wf = true) : ∃ k, laws_FnContourMany.f k l = some true := by
  refine ⟨8000, ?_⟩
  unfold laws_FnContourMany.f spec_DrawContourMany.f
  by_cases h : (l.length : Int) > 1048576
  · rw [if_pos h]
  rw [if_neg h]
  obtain ⟨l', e, hb⟩ := open_ok l hw
  obtain ⟨s, q, e2, hs, hq0, hq1⟩ := contour_draw 7960 hb 5 (by omega)
  rw [e]
  simp only [bs]
  rw [e2]
  simp only [bs]
  have fin : ∀ m : Int, ((spec_ContourMany.f 8000 s m).bind fun t310 => if manyV s m = t310 then laws_FnContourMany.j0 8000 s m (manyV s m) t310 (decide (manyV s m < 0)) else laws_FnContourMany.j0 8000 s m (manyV s m) t310 true) = some true := by
    intro m
    rw [specMany s (by omega) m _ (by omega)]
    simp only [bs, if_true]
    exact many_core 7999 (by omega) s (by omega) m
  obtain ⟨v, ev, hv0, hv1⟩ := pick_ok 7999 hb q 16 (by omega) (by omega)
  rw [ev]
  simp only [bs]
  by_cases c0 : v = 0
  · rw [if_pos c0]
    obtain ⟨u, eu, hu0, hu1⟩ := pick_ok 7999 hb (q + 1) 3 (by omega) (by omega)
    rw [eu]
    simp only [bs]
    rw [if_pos (by omega), if_pos (by simp; omega)]
    simp only [bs]
    rw [implMany s (by omega) _ _ (by omega)]
    simp only [bs]
    exact fin _
  · rw [if_neg c0]
    obtain ⟨u, eu, hu0, hu1⟩ := pick_ok 7999 hb (q + 1) 6 (by omega) (by omega)
    rw [eu]
    simp only [bs]
    rw [implMany s (by omega) _ _ (by omega)]
    simp only [bs]
    exact fin _
end Go.Proofs.YtnbjfkjpaaoooaaDoor.ZA
