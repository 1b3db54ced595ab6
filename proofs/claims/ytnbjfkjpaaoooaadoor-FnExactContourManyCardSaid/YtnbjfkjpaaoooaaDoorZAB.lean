/- The plain laws: what the Lean functions of the walks come to. No program and no memory in sight. No condition beyond what each theorem says. -/
import Derived.Test.YtnbjfkjpaaoooaaDoorXAx1
import Derived.Test.YtnbjfkjpaaoooaaDoorXAx3
import Derived.Test.YtnbjfkjpaaoooaaDoorXAx5
import Derived.Test.YtnbjfkjpaaoooaaDoorXAx11
import Derived.Test.YtnbjfkjpaaoooaaDoorXAx12
import Derived.Test.YtnbjfkjpaaoooaaDoorXAx13
import Derived.Test.YtnbjfkjpaaoooaaDoorXAx14
import Derived.Test.YtnbjfkjpaaoooaaDoorXAx15
import Derived.Lib.IndexLaws
import Derived.Lib.IndexBytes
namespace Go.Proofs.YtnbjfkjpaaoooaaDoor.ZA
open Go.RowKit Go.Proofs.YtnbjfkjpaaoooaaDoor.XA Go.Proofs.YtnbjfkjpaaoooaaDoorW.PrintWords Go.Proofs.YtnbjfkjpaaoooaaDoorW.PrintLast
set_option linter.unusedVariables false
set_option linter.unusedSimpArgs false
theorem w64 {x : Int} (h0 : -9223372036854775808 ≤ x) (h1 : x < 9223372036854775808) : wrap64 x = x := by unfold wrap64; omega
/-- Not by rfl: so simp leaves a proof, and the kernel need not compare the two sides by running them. -/
theorem bs {α β : Type} (a : α) (f : α → Option β) : (some a).bind f = f a := by
  have h : ∀ o : Option α, o = some a → o.bind f = f a := by
    rintro _ rfl
    rfl
  exact h _ rfl
abbrev L (s : ByteArray) : List UInt8 := s.data.toList
theorem L_size (s : ByteArray) : s.size = (L s).length := Lib.size_eq s
theorem ba_ext {x y : ByteArray} (h : L x = L y) : x = y := by
  obtain ⟨⟨a⟩⟩ := x
  obtain ⟨⟨b⟩⟩ := y
  simp only [L] at h
  rw [h]
theorem L_mk (l : List UInt8) : L ⟨l.toArray⟩ = l := by simp [L]
theorem mk_L (s : ByteArray) : (⟨(L s).toArray⟩ : ByteArray) = s := ba_ext (L_mk _)
theorem bt_n (s : ByteArray) (n : Nat) (c : UInt8) (h : (L s)[n]? = some c) : bt s (n : Int) = (c.toNat : Int) := by
  have hn : n < s.size := by rw [L_size]; exact (List.getElem?_eq_some_iff.1 h).1
  unfold bt
  rw [dif_pos (by simpa using hn)]
  have e : s[((n : Int).toNat)]'(by simpa using hn) = c := by
    have h2 := (List.getElem?_eq_some_iff.1 h).2
    rw [← h2]
    rfl
  rw [e]
theorem drop_c (l : List UInt8) (n : Nat) (h : n < l.length) : ∃ c, l[n]? = some c ∧ l.drop n = c :: l.drop (n + 1) :=
  ⟨l[n], List.getElem?_eq_getElem h, List.drop_eq_getElem_cons h⟩
theorem w_succ {n : Nat} (h : n < 4611686018427387904) : wrap64 ((n : Int) + 1) = ((n + 1 : Nat) : Int) := by
  rw [w64 (by omega) (by omega)]; omega
theorem round {k d : Nat} (h : d < k) : ∃ m, k = m + 1 := ⟨k - 1, by omega⟩
theorem u8_of {c : UInt8} {k : Nat} (hk : k < 256) : ((c.toNat : Int) = (k : Int)) ↔ c = UInt8.ofNat k := by
  constructor
  · intro h
    apply UInt8.toNat_inj.1
    rw [UInt8.toNat_ofNat_of_lt' hk]
    omega
  · rintro rfl
    rw [UInt8.toNat_ofNat_of_lt' hk]
theorem toList_L (s : ByteArray) : s.toList = L s := Lib.toList_data s
theorem dw_nil {α : Type} (p : α → Bool) : ∀ m : List α, m.dropWhile p = [] ↔ ∀ c ∈ m, p c = true
  | [] => by simp
  | a :: m => by
    rw [List.dropWhile_cons]
    by_cases h : p a = true
    · rw [if_pos h, dw_nil p m]
      simp [h]
    · rw [if_neg h]
      simp [h]
theorem dw_cons {α : Type} (p : α → Bool) : ∀ (l : List α) (a : α) (m : List α), l.dropWhile p = a :: m → p a = false
  | [], a, m, h => by simp at h
  | b :: l, a, m, h => by
    rw [List.dropWhile_cons] at h
    by_cases hb : p b = true
    · rw [if_pos hb] at h
      exact dw_cons p l a m h
    · rw [if_neg hb] at h
      injection h with h1 _
      rw [← h1]
      simpa using hb
theorem trim_nil (l cs : List UInt8) : Lib.trimS l cs = [] ↔ ∀ c ∈ l, cs.contains c = true := by
  have hr : ∀ m : List UInt8, m.dropWhile (cs.contains ·) = [] ↔ ∀ c ∈ m, cs.contains c = true := fun m => dw_nil _ m
  unfold Lib.trimS Lib.trimLeftS
  rw [hr]
  unfold Lib.trimRightS
  constructor
  · intro h
    have h1 : l.reverse.dropWhile (cs.contains ·) = [] := by
      cases hm : l.reverse.dropWhile (cs.contains ·) with
      | nil => rfl
      | cons a m =>
        have h2 : cs.contains a = false := dw_cons (cs.contains ·) l.reverse a m hm
        have := h a (by rw [hm]; simp)
        rw [h2] at this
        cases this
    intro c hc
    exact (hr l.reverse).1 h1 c (by simpa using hc)
  · intro h c hc
    have : c ∈ l.reverse.dropWhile (cs.contains ·) := by simpa using hc
    exact h c (by simpa using (List.dropWhile_sublist _).subset this)
theorem is_u (c : UInt8) : ((c.toNat : Int) = 117) ↔ c = 117 := u8_of (k := 117) (by omega)
theorem is_d (c : UInt8) : ((c.toNat : Int) = 100) ↔ c = 100 := u8_of (k := 100) (by omega)
theorem is_s (c : UInt8) : ((c.toNat : Int) = 115) ↔ c = 115 := u8_of (k := 115) (by omega)
/-- A way. -/
def wayC (c : UInt8) : Bool := c == 117 || (c == 100 || c == 115)
theorem wayC_cases (c : UInt8) (h : wayC c = true) : c = 117 ∨ c = 100 ∨ c = 115 := by
  simpa [wayC] using h
/-- A contour. -/
def cv (s : ByteArray) : Bool := (L s).all wayC && decide (s.size < 24)
theorem cvalid_loop (s : ByteArray) (hs : s.size ≤ 1100000) (d : Nat) : ∀ k n : Nat, n + d = s.size → d < k →
    spec_ContourValid.l0 k s (n : Int) = some (((L s).drop n).all wayC && decide (s.size < 24)) := by
  induction d with
  | zero =>
    intro k n hn hk
    obtain ⟨k, rfl⟩ := round hk
    simp only [spec_ContourValid.l0]
    rw [if_neg (by omega), show (L s).drop n = [] from List.drop_eq_nil_of_le (by rw [← L_size]; omega)]
    simp
    omega
  | succ d ih =>
    intro k n hn hk
    obtain ⟨k, rfl⟩ := round hk
    obtain ⟨c, hc, hd⟩ := drop_c (L s) n (by rw [← L_size]; omega)
    simp only [spec_ContourValid.l0]
    rw [if_pos (by omega), if_pos (by omega), bt_n s n c hc, w_succ (by omega), ih k (n + 1) (by omega) (by omega), hd, List.all_cons]
    by_cases h : c = 117
    · subst h
      rw [if_pos (by decide)]
      simp [wayC]
    · rw [if_neg (fun e => h ((is_u c).1 e))]
      by_cases h2 : c = 100
      · subst h2
        rw [if_pos (by decide)]
        simp [wayC]
      · rw [if_neg (fun e => h2 ((is_d c).1 e))]
        by_cases h3 : c = 115
        · subst h3
          rw [if_pos (by decide)]
          simp [wayC]
        · rw [if_neg (fun e => h3 ((is_s c).1 e))]
          have : wayC c = false := by simp [wayC, h, h2, h3]
          rw [this]
          simp
theorem specCV (s : ByteArray) (hs : s.size ≤ 1100000) (k : Nat) (hk : s.size < k) : spec_ContourValid.f k s = some (cv s) := by
  unfold spec_ContourValid.f cv
  have := cvalid_loop s hs s.size k 0 (by omega) hk
  rw [show ((0 : Nat) : Int) = 0 from rfl] at this
  rw [this, List.drop_zero]
theorem implCV (s : ByteArray) (hs : s.size ≤ 1100000) : impl_ContourValid.f s = some (cv s) := by
  unfold impl_ContourValid.f cv strings_Trim.f
  by_cases h : s.size < 24
  · rw [if_pos (by omega), if_pos ⟨by omega, by decide, by decide⟩, decide_eq_true h, Bool.and_true]
    simp only [bs, toList_L, L_mk]
    congr 1
    rw [Bool.eq_iff_iff, beq_iff_eq, trim_nil, List.all_eq_true]
    constructor
    · intro g c hc
      have := g c hc
      simpa [wayC] using this
    · intro g c hc
      have := g c hc
      simpa [wayC] using this
  · rw [if_neg (by omega), decide_eq_false h, Bool.and_false]
theorem cv_size (s : ByteArray) (h : cv s = true) : s.size < 24 := by
  unfold cv at h
  rw [Bool.and_eq_true, decide_eq_true_eq] at h
  exact h.2
theorem cv_all (s : ByteArray) (h : cv s = true) : ∀ c ∈ L s, wayC c = true := by
  unfold cv at h
  rw [Bool.and_eq_true, List.all_eq_true] at h
  exact h.1
theorem cv_mk (l : List UInt8) (h : ∀ c ∈ l, wayC c = true) (hn : l.length < 24) : cv ⟨l.toArray⟩ = true := by
  unfold cv
  rw [Bool.and_eq_true, List.all_eq_true, decide_eq_true_eq, L_size, L_mk]
  exact ⟨h, hn⟩
/-- The opposite way. -/
def ot (c : UInt8) : UInt8 := if c = 117 then 100 else if c = 100 then 117 else 115
theorem ot_way (c : UInt8) : wayC (ot c) = true := by
  unfold ot
  split
  · rfl
  · split <;> rfl
theorem ot_ot (c : UInt8) (h : wayC c = true) : ot (ot c) = c := by
  rcases wayC_cases c h with rfl | rfl | rfl <;> decide
theorem other_eq (c : UInt8) : spec_l3Other.f (c.toNat : Int) = some ⟨#[ot c]⟩ := by
  unfold spec_l3Other.f ot
  by_cases h : c = 117
  · rw [if_pos ((is_u c).2 h), if_pos h]
  · rw [if_neg (fun e => h ((is_u c).1 e)), if_neg h]
    by_cases h2 : c = 100
    · rw [if_pos ((is_d c).2 h2), if_pos h2]
    · rw [if_neg (fun e => h2 ((is_d c).1 e)), if_neg h2]
theorem turned_eq (c : UInt8) (h : wayC c = true) : impl_turnedWay.f (c.toNat : Int) = some ((ot c).toNat : Int) := by
  rcases wayC_cases c h with rfl | rfl | rfl <;> decide
theorem strOf (l : List UInt8) : strOfNums (l.map fun c => (c.toNat : Int)) = ⟨l.toArray⟩ := by
  unfold strOfNums
  rw [List.map_map]
  congr 2
  conv => rhs; rw [← List.map_id l]
  apply List.map_congr_left
  intro c _
  simp
theorem ba_push (l : List UInt8) (c : UInt8) : (⟨l.toArray⟩ : ByteArray) ++ ⟨#[c]⟩ = ⟨(l ++ [c]).toArray⟩ := ba_ext (by simp [L])
theorem sz_mk (l : List UInt8) : (⟨l.toArray⟩ : ByteArray).size = l.length := by rw [L_size, L_mk]
theorem sz_one (c : UInt8) : (⟨#[c]⟩ : ByteArray).size = 1 := rfl
theorem specTurn_loop (s : ByteArray) (hs : s.size ≤ 1000) (d : Nat) : ∀ (k n : Nat) (x : List UInt8), n + d = s.size → d < k → x.length = n →
    spec_ContourTurn.l0 k s ⟨x.toArray⟩ (n : Int) = some (⟨(x ++ ((L s).drop n).map ot).toArray⟩, true) := by
  induction d with
  | zero =>
    intro k n x hn hk hx
    obtain ⟨k, rfl⟩ := round hk
    simp only [spec_ContourTurn.l0]
    rw [if_neg (by omega), show (L s).drop n = [] from List.drop_eq_nil_of_le (by rw [← L_size]; omega)]
    simp
  | succ d ih =>
    intro k n x hn hk hx
    obtain ⟨k, rfl⟩ := round hk
    obtain ⟨c, hc, hd⟩ := drop_c (L s) n (by rw [← L_size]; omega)
    simp only [spec_ContourTurn.l0]
    rw [if_pos (by omega), if_pos (by omega), bt_n s n c hc, other_eq]
    simp only [bs]
    rw [sz_mk, sz_one, if_pos (by omega), ba_push, w_succ (by omega), ih k (n + 1) _ (by omega) (by omega) (by simp; omega), hd]
    simp
theorem implTurn_loop (s : ByteArray) (hs : s.size ≤ 1000) (hw : ∀ c ∈ L s, wayC c = true) (d : Nat) : ∀ (k n : Nat) (x : List UInt8), n + d = s.size → d < k → x.length = n →
    impl_ContourTurn.l0 k s (x.map fun c => (c.toNat : Int)) (s.size : Int) (n : Int) = some (⟨(x ++ ((L s).drop n).map ot).toArray⟩, true) := by
  induction d with
  | zero =>
    intro k n x hn hk hx
    obtain ⟨k, rfl⟩ := round hk
    simp only [impl_ContourTurn.l0]
    rw [if_neg (by omega), show (L s).drop n = [] from List.drop_eq_nil_of_le (by rw [← L_size]; omega), strOf]
    simp
  | succ d ih =>
    intro k n x hn hk hx
    obtain ⟨k, rfl⟩ := round hk
    obtain ⟨c, hc, hd⟩ := drop_c (L s) n (by rw [← L_size]; omega)
    simp only [impl_ContourTurn.l0]
    rw [if_pos (by omega), if_pos (by omega), if_pos (by omega), bt_n s n c hc, turned_eq c (hw c (List.mem_of_getElem? hc))]
    simp only [bs]
    have e : (x.map fun c => (c.toNat : Int)) ++ [((ot c).toNat : Int)] = (x ++ [ot c]).map fun c => (c.toNat : Int) := by simp
    rw [if_pos (by rw [List.length_map]; omega), e, w_succ (by omega), ih k (n + 1) _ (by omega) (by omega) (by simp; omega), hd]
    simp
/-- The turned contour. -/
def turnB (s : ByteArray) : ByteArray := ⟨((L s).map ot).toArray⟩
theorem specTurn (s : ByteArray) (hs : s.size ≤ 1100000) (k : Nat) (hk : s.size < k) : spec_ContourTurn.f k s = some (if cv s = true then (turnB s, true) else (⟨#[]⟩, false)) := by
  unfold spec_ContourTurn.f
  rw [specCV s hs k hk]
  simp only [bs]
  by_cases h : cv s = true
  · rw [if_pos h, if_pos h]
    have := specTurn_loop s (by have := cv_size s h; omega) s.size k 0 [] (by omega) hk rfl
    rw [show ((0 : Nat) : Int) = 0 from rfl, List.nil_append, List.drop_zero] at this
    exact this
  · rw [if_neg h, if_neg h]
theorem implTurn (s : ByteArray) (hs : s.size ≤ 1100000) (k : Nat) (hk : s.size < k) : impl_ContourTurn.f k s = some (if cv s = true then (turnB s, true) else (⟨#[]⟩, false)) := by
  unfold impl_ContourTurn.f
  rw [implCV s hs]
  simp only [bs]
  by_cases h : cv s = true
  · rw [if_pos h, if_pos h]
    have := implTurn_loop s (by have := cv_size s h; omega) (cv_all s h) s.size k 0 [] (by omega) hk rfl
    rw [show ((0 : Nat) : Int) = 0 from rfl, List.nil_append, List.drop_zero] at this
    exact this
  · rw [if_neg h, if_neg h]
theorem specBack_loop (s : ByteArray) (hs : s.size ≤ 1000) : ∀ (n k : Nat) (x : List UInt8), n ≤ s.size → n < k → x.length + n = s.size →
    spec_ContourBack.l0 k s ⟨x.toArray⟩ ((n : Int) - 1) = some (⟨(x ++ ((L s).take n).reverse.map ot).toArray⟩, true) := by
  intro n
  induction n with
  | zero =>
    intro k x hn hk hx
    obtain ⟨k, rfl⟩ := round hk
    simp only [spec_ContourBack.l0]
    rw [if_neg (by omega)]
    simp
  | succ n ih =>
    intro k x hn hk hx
    obtain ⟨k, rfl⟩ := round hk
    obtain ⟨c, hc, _⟩ := drop_c (L s) n (by rw [← L_size]; omega)
    simp only [spec_ContourBack.l0]
    rw [show ((n + 1 : Nat) : Int) - 1 = (n : Int) by omega, if_pos (by omega), if_pos (by omega), if_pos (by omega), bt_n s n c hc, other_eq]
    simp only [bs]
    rw [sz_mk, sz_one, if_pos (by omega), ba_push, w64 (x := (n : Int) - 1) (by omega) (by omega), ih k _ (by omega) (by omega) (by simp; omega), List.take_add_one, hc]
    simp
theorem implBack_loop (s : ByteArray) (hs : s.size ≤ 1000) (hw : ∀ c ∈ L s, wayC c = true) : ∀ (n k : Nat) (x : List UInt8), n ≤ s.size → n < k → x.length + n = s.size →
    impl_ContourBack.l0 k s (x.map fun c => (c.toNat : Int)) ((n : Int) - 1) = some (⟨(x ++ ((L s).take n).reverse.map ot).toArray⟩, true) := by
  intro n
  induction n with
  | zero =>
    intro k x hn hk hx
    obtain ⟨k, rfl⟩ := round hk
    simp only [impl_ContourBack.l0]
    rw [if_neg (by omega), strOf]
    simp
  | succ n ih =>
    intro k x hn hk hx
    obtain ⟨k, rfl⟩ := round hk
    obtain ⟨c, hc, _⟩ := drop_c (L s) n (by rw [← L_size]; omega)
    simp only [impl_ContourBack.l0]
    rw [show ((n + 1 : Nat) : Int) - 1 = (n : Int) by omega, if_pos (by omega), if_pos (by omega), if_pos (by omega), bt_n s n c hc, turned_eq c (hw c (List.mem_of_getElem? hc))]
    simp only [bs]
    have e : (x.map fun c => (c.toNat : Int)) ++ [((ot c).toNat : Int)] = (x ++ [ot c]).map fun c => (c.toNat : Int) := by simp
    rw [if_pos (by rw [List.length_map]; omega), e, w64 (x := (n : Int) - 1) (by omega) (by omega), ih k _ (by omega) (by omega) (by simp; omega), List.take_add_one, hc]
    simp
/-- The contour of the tones in the opposite order. -/
def backB (s : ByteArray) : ByteArray := ⟨((L s).reverse.map ot).toArray⟩
theorem specBack (s : ByteArray) (hs : s.size ≤ 1100000) (k : Nat) (hk : s.size < k) : spec_ContourBack.f k s = some (if cv s = true then (backB s, true) else (⟨#[]⟩, false)) := by
  unfold spec_ContourBack.f
  rw [specCV s hs k hk]
  simp only [bs]
  by_cases h : cv s = true
  · rw [if_pos h, if_pos h]
    have := specBack_loop s (by have := cv_size s h; omega) s.size k [] (by omega) hk (by simp)
    rw [L_size s, List.take_length, List.nil_append, ← L_size s] at this
    rw [w64 (by omega) (by omega)]
    exact this
  · rw [if_neg h, if_neg h]
theorem implBack (s : ByteArray) (hs : s.size ≤ 1100000) (k : Nat) (hk : s.size < k) : impl_ContourBack.f k s = some (if cv s = true then (backB s, true) else (⟨#[]⟩, false)) := by
  unfold impl_ContourBack.f
  rw [implCV s hs]
  simp only [bs]
  by_cases h : cv s = true
  · rw [if_pos h, if_pos h]
    have := implBack_loop s (by have := cv_size s h; omega) (cv_all s h) s.size k [] (by omega) hk (by simp)
    rw [L_size s, List.take_length, List.nil_append, ← L_size s] at this
    rw [w64 (by omega) (by omega)]
    exact this
  · rw [if_neg h, if_neg h]
/-- The list of a function's first values. -/
def ml (M : Nat) (F : Nat → Int) : List Int := (List.range M).map F
theorem ml_len (M : Nat) (F : Nat → Int) : (ml M F).length = M := by simp [ml]
theorem ml_rd (M : Nat) (F : Nat → Int) (n : Nat) (h : n < M) : rd (ml M F) (n : Int) = F n := by
  unfold rd ml
  rw [Int.toNat_natCast, List.getD_eq_getElem?_getD, List.getElem?_map, List.getElem?_range h]
  rfl
theorem ml_congr (M : Nat) (F G : Nat → Int) (h : ∀ j, j < M → F j = G j) : ml M F = ml M G := by
  unfold ml
  apply List.map_congr_left
  intro j hj
  exact h j (List.mem_range.1 hj)
theorem ml_set (M : Nat) (F : Nat → Int) (n : Nat) (v : Int) : (ml M F).set n v = ml M (fun j => if j = n then v else F j) := by
  apply List.ext_getElem?
  intro j
  unfold ml
  rw [List.getElem?_set]
  by_cases h : n = j
  · subst h
    rw [if_pos rfl]
    by_cases h2 : n < M
    · rw [if_pos (by simpa using h2), List.getElem?_map, List.getElem?_range h2]; simp
    · rw [if_neg (by simpa using h2), List.getElem?_eq_none (by simpa using Nat.le_of_not_lt h2)]
  · rw [if_neg h, List.getElem?_map, List.getElem?_map]
    by_cases h2 : j < M
    · rw [List.getElem?_range h2]; simp [Ne.symm h]
    · rw [List.getElem?_eq_none (by simpa using Nat.le_of_not_lt h2)]; rfl
theorem ml_rep (M : Nat) (v : Int) : List.replicate M v = ml M (fun _ => v) := by
  unfold ml
  apply List.ext_getElem?
  intro j
  rw [List.getElem?_map, List.getElem?_replicate]
  by_cases h2 : j < M
  · rw [if_pos h2, List.getElem?_range h2]; rfl
  · rw [if_neg h2, List.getElem?_eq_none (by simpa using Nat.le_of_not_lt h2)]; rfl
theorem ml_snoc (M : Nat) (F : Nat → Int) : ml M F ++ [F M] = ml (M + 1) F := by
  unfold ml
  rw [List.range_succ, List.map_append]; rfl
/-- The way from a step to another. -/
def wy (a b : Nat) : UInt8 := if b > a then 117 else if b < a then 100 else 115
theorem wy_way (a b : Nat) : wayC (wy a b) = true := by
  unfold wy
  split
  · rfl
  · split <;> rfl
theorem wy_ot (a b : Nat) : wy b a = ot (wy a b) := by
  unfold wy
  rcases Nat.lt_trichotomy a b with h | h | h
  · have e1 : ¬ b < a := by omega
    simp only [gt_iff_lt, h, e1, if_true, if_false]
    rfl
  · subst h
    simp only [gt_iff_lt, Nat.lt_irrefl, if_false]
    rfl
  · have e1 : ¬ a < b := by omega
    simp only [gt_iff_lt, h, e1, if_true, if_false]
    rfl
theorem l3Way_eq (a b : Nat) : spec_l3Way.f (a : Int) (b : Int) = some ⟨#[wy a b]⟩ := by
  unfold spec_l3Way.f wy
  by_cases h : b > a
  · rw [if_pos (by omega), if_pos h]
  · rw [if_neg (by omega), if_neg h]
    by_cases h2 : b < a
    · rw [if_pos (by omega), if_pos h2]
    · rw [if_neg (by omega), if_neg h2]
theorem wayBetween_eq (a b : Nat) : impl_wayBetween.f (a : Int) (b : Int) = some ((wy a b).toNat : Int) := by
  unfold impl_wayBetween.f wy
  by_cases h : b > a
  · rw [if_pos (by omega), if_pos h]; rfl
  · rw [if_neg (by omega), if_neg h]
    by_cases h2 : b < a
    · rw [if_pos (by omega), if_pos h2]; rfl
    · rw [if_neg (by omega), if_neg h2]; rfl
/-- What step a gives to step b by the way c. -/
def term (c : UInt8) (f : Nat → Int) (a b : Nat) : Int := if wy a b = c then f a else 0
def ps (c : UInt8) (f : Nat → Int) : Nat → Nat → Int
  | 0, _ => 0
  | a + 1, b => ps c f a b + term c f a b
def nxt (M : Nat) (c : UInt8) (f : Nat → Int) : Nat → Int := fun b => ps c f M b
def tot (f : Nat → Int) : Nat → Int
  | 0 => 0
  | n + 1 => tot f n + f n
def rows (M : Nat) : List UInt8 → (Nat → Int) → (Nat → Int)
  | [], f => f
  | c :: l, f => rows M l (nxt M c f)
def Bd (f : Nat → Int) (B : Nat) : Prop := ∀ j, 0 ≤ f j ∧ f j ≤ B
theorem term_bd {f : Nat → Int} {B : Nat} (h : Bd f B) (c : UInt8) (a b : Nat) : 0 ≤ term c f a b ∧ term c f a b ≤ B := by
  unfold term
  split
  · exact h a
  · omega
theorem ps_bd {f : Nat → Int} {B : Nat} (h : Bd f B) (c : UInt8) : ∀ a b, 0 ≤ ps c f a b ∧ ps c f a b ≤ ((a * B : Nat) : Int)
  | 0, b => by simp [ps]
  | a + 1, b => by
    have ih := ps_bd h c a b
    have t := term_bd h c a b
    have e : (a + 1) * B = a * B + B := Nat.succ_mul a B
    simp only [ps]
    omega
theorem ps_bd2 {f : Nat → Int} {B : Nat} (h : Bd f B) (hB : B ≤ 37822859361) (c : UInt8) (a b : Nat) (ha : a ≤ 21) : 0 ≤ ps c f a b ∧ ps c f a b ≤ 794280046581 := by
  have := ps_bd h c a b
  have e : a * B ≤ 21 * 37822859361 := Nat.mul_le_mul ha hB
  omega
theorem nxt_bd {f : Nat → Int} {B : Nat} (h : Bd f B) (M : Nat) (hM : M ≤ 21) (c : UInt8) : Bd (nxt M c f) (21 * B) := fun j => by
  have := ps_bd h c M j
  have e : M * B ≤ 21 * B := Nat.mul_le_mul_right B hM
  unfold nxt
  omega
theorem tot_bd {f : Nat → Int} {B : Nat} (h : Bd f B) : ∀ n, 0 ≤ tot f n ∧ tot f n ≤ ((n * B : Nat) : Int)
  | 0 => by simp [tot]
  | n + 1 => by
    have ih := tot_bd h n
    have t := h n
    have e : (n + 1) * B = n * B + B := Nat.succ_mul n B
    simp only [tot]
    omega
theorem tot_bd2 {f : Nat → Int} {B : Nat} (h : Bd f B) (hB : B ≤ 37822859361) (n : Nat) (ha : n ≤ 21) : 0 ≤ tot f n ∧ tot f n ≤ 794280046581 := by
  have := tot_bd h n
  have e : n * B ≤ 21 * 37822859361 := Nat.mul_le_mul ha hB
  omega
theorem ext_one (s : ByteArray) (n : Nat) (c : UInt8) (h : (L s)[n]? = some c) : (s.extract n (n + 1)).toList = [c] := by
  rw [toList_L]
  show (s.extract n (n + 1)).data.toList = [c]
  rw [Lib.extract_data]
  obtain ⟨h1, h2⟩ := List.getElem?_eq_some_iff.1 h
  show ((L s).drop n).take (n + 1 - n) = [c]
  rw [show n + 1 - n = 1 by omega, List.drop_eq_getElem_cons h1, h2]
  rfl
theorem one_list (c : UInt8) : (⟨#[c]⟩ : ByteArray).toList = [c] := by rw [toList_L]
section
set_option linter.unusedSectionVars false
variable (s : ByteArray) (hs : s.size ≤ 1000) (M : Nat) (hM : M ≤ 21) (c : UInt8) (i : Nat) (hc : (L s)[i]? = some c) (f : Nat → Int) (B : Nat) (hf : Bd f B) (hB : B ≤ 37822859361)
include hs hM hc hf hB
theorem spec_l3 (a : Nat) (ha : a < M) : ∀ (d k b : Nat), b + d = M →
    spec_ContourMany.l3 (k + d + 1) s ((M : Int) - 1) (ml M f) (i : Int) (ml M (fun j => ps c f a j + if j < b then term c f a j else 0)) (a : Int) (b : Int) =
    spec_ContourMany.l2 k s ((M : Int) - 1) (ml M f) (i : Int) (ml M (fun j => ps c f (a + 1) j)) ((a + 1 : Nat) : Int) := by
  have hi : i < s.size := by rw [L_size]; exact (List.getElem?_eq_some_iff.1 hc).1
  intro d
  induction d with
  | zero =>
    intro k b hb
    simp only [spec_ContourMany.l3]
    rw [if_neg (by omega), w_succ (by omega)]
    congr 1
    apply ml_congr
    intro j hj
    rw [if_pos (by omega)]
    rfl
  | succ d ih =>
    intro k b hb
    obtain ⟨q, hq⟩ : ∃ q, k + d + 1 = q := ⟨_, rfl⟩
    rw [show k + (d + 1) + 1 = q + 1 by omega]
    simp only [spec_ContourMany.l3]
    subst hq
    rw [if_pos (by omega), l3Way_eq]
    simp only [bs]
    rw [if_pos (by omega), w_succ (n := i) (by omega), if_pos (by omega), if_pos (by omega), Int.toNat_natCast, Int.toNat_natCast, ext_one s i c hc, one_list]
    by_cases h : wy a b = c
    · rw [if_pos (by rw [h]), if_pos (by omega), if_pos (by rw [ml_len]; omega), if_pos (by omega), if_pos (by rw [ml_len]; omega), Int.toNat_natCast, ml_rd _ _ _ (by omega), ml_rd _ _ _ (by omega), w_succ (n := b) (by omega), ml_set]
      rw [← ih k (b + 1) (by omega)]
      congr 1
      apply ml_congr
      intro j hj
      have p := ps_bd2 hf hB c a b (by omega)
      have t := hf a
      by_cases hj2 : j = b
      · subst hj2
        rw [if_pos rfl, if_neg (by omega), if_pos (by omega), w64 (by omega) (by omega)]
        unfold term
        rw [if_pos h]
        omega
      · rw [if_neg hj2]
        by_cases h3 : j < b
        · rw [if_pos h3, if_pos (by omega)]
        · rw [if_neg h3, if_neg (by omega)]
    · rw [if_neg (by simpa using h), w_succ (n := b) (by omega), ← ih k (b + 1) (by omega)]
      congr 1
      apply ml_congr
      intro j hj
      by_cases hj2 : j = b
      · subst hj2
        rw [if_neg (by omega), if_pos (by omega)]
        unfold term
        rw [if_neg h]
      · by_cases h3 : j < b
        · rw [if_pos h3, if_pos (by omega)]
        · rw [if_neg h3, if_neg (by omega)]
theorem spec_l2 : ∀ (d k a : Nat), a + d = M →
    spec_ContourMany.l2 (k + d * (M + 2) + 1) s ((M : Int) - 1) (ml M f) (i : Int) (ml M (fun j => ps c f a j)) (a : Int) =
    spec_ContourMany.l1 k s ((M : Int) - 1) (ml M (nxt M c f)) ((i + 1 : Nat) : Int) := by
  have hi : i < s.size := by rw [L_size]; exact (List.getElem?_eq_some_iff.1 hc).1
  intro d
  induction d with
  | zero =>
    intro k a ha
    rw [show k + 0 * (M + 2) + 1 = k + 1 by omega]
    simp only [spec_ContourMany.l2]
    rw [if_neg (by omega), w_succ (by omega)]
    obtain rfl : a = M := by omega
    rfl
  | succ d ih =>
    intro k a ha
    rw [show k + (d + 1) * (M + 2) + 1 = (k + d * (M + 2) + 1 + M + 1) + 1 by rw [Nat.succ_mul]; omega]
    simp only [spec_ContourMany.l2]
    rw [if_pos (by omega)]
    have := spec_l3 s hs M hM c i hc f B hf hB a (by omega) M (k + d * (M + 2) + 1) 0 (by omega)
    rw [show (ml M (fun j => ps c f a j + if j < 0 then term c f a j else 0)) = ml M (fun j => ps c f a j) from ml_congr _ _ _ (fun j _ => by simp), show ((0 : Nat) : Int) = 0 from rfl] at this
    rw [this, ih k (a + 1) (by omega)]
theorem impl_l3 (b : Nat) (hb : b < M) : ∀ (d k a : Nat), a + d = M →
    impl_ContourMany.l3 (k + d + 1) s ((M : Int) - 1) (ml M f) (i : Int) (ml M (fun j => if j < b then ps c f M j else if j = b then ps c f a j else 0)) (b : Int) (s.size : Int) (i : Int) (M : Int) (b : Int) (ml M f) (M : Int) (a : Int) =
    impl_ContourMany.l2 k s ((M : Int) - 1) (ml M f) (i : Int) (ml M (fun j => if j < b + 1 then ps c f M j else 0)) (s.size : Int) (i : Int) (M : Int) ((b + 1 : Nat) : Int) := by
  have hi : i < s.size := by rw [L_size]; exact (List.getElem?_eq_some_iff.1 hc).1
  intro d
  induction d with
  | zero =>
    intro k a ha
    simp only [impl_ContourMany.l3]
    rw [if_neg (by omega), w_succ (by omega)]
    obtain rfl : a = M := by omega
    congr 1
    apply ml_congr
    intro j hj
    by_cases h : j < b
    · rw [if_pos h, if_pos (by omega)]
    · rw [if_neg h]
      by_cases h2 : j = b
      · rw [if_pos h2, if_pos (by omega)]
      · rw [if_neg h2, if_neg (by omega)]
  | succ d ih =>
    intro k a ha
    obtain ⟨q, hq⟩ : ∃ q, k + d + 1 = q := ⟨_, rfl⟩
    rw [show k + (d + 1) + 1 = q + 1 by omega]
    simp only [impl_ContourMany.l3]
    subst hq
    rw [if_pos (by omega), if_pos (by omega), if_pos (by rw [ml_len]; omega), wayBetween_eq]
    simp only [bs]
    rw [if_pos (by omega), if_pos (by omega), bt_n s i c hc]
    by_cases h : wy a b = c
    · rw [if_pos (by rw [h]), if_pos (by omega), if_pos (by rw [ml_len]; omega), Int.toNat_natCast, ml_rd _ _ _ (by omega), ml_rd _ _ _ (by omega), w_succ (n := a) (by omega), ml_set, ← ih k (a + 1) (by omega)]
      congr 1
      apply ml_congr
      intro j hj
      have p := ps_bd2 hf hB c a b (by omega)
      have t := hf a
      by_cases hj2 : j = b
      · subst hj2
        rw [if_pos rfl, if_neg (by omega), if_pos rfl, if_neg (by omega), if_pos rfl, w64 (by omega) (by omega)]
        simp only [ps]
        unfold term
        rw [if_pos h]
      · rw [if_neg hj2, if_neg hj2, if_neg hj2]
    · rw [if_neg (fun e => h (UInt8.toNat_inj.1 (by omega))), w_succ (n := a) (by omega), ← ih k (a + 1) (by omega)]
      congr 1
      apply ml_congr
      intro j hj
      by_cases hj2 : j = b
      · subst hj2
        rw [if_neg (by omega), if_pos rfl, if_neg (by omega), if_pos rfl]
        simp only [ps]
        unfold term
        rw [if_neg h]
        omega
      · rw [if_neg hj2, if_neg hj2]
theorem impl_l2 : ∀ (d k b : Nat), b + d = M →
    impl_ContourMany.l2 (k + d * (M + 2) + 1) s ((M : Int) - 1) (ml M f) (i : Int) (ml M (fun j => if j < b then ps c f M j else 0)) (s.size : Int) (i : Int) (M : Int) (b : Int) =
    impl_ContourMany.l1 k s ((M : Int) - 1) (ml M (nxt M c f)) (s.size : Int) ((i + 1 : Nat) : Int) := by
  have hi : i < s.size := by rw [L_size]; exact (List.getElem?_eq_some_iff.1 hc).1
  intro d
  induction d with
  | zero =>
    intro k b hb
    rw [show k + 0 * (M + 2) + 1 = k + 1 by omega]
    simp only [impl_ContourMany.l2]
    rw [if_neg (by omega), w_succ (by omega)]
    congr 1
    apply ml_congr
    intro j hj
    rw [if_pos (by omega)]
    rfl
  | succ d ih =>
    intro k b hb
    rw [show k + (d + 1) * (M + 2) + 1 = (k + d * (M + 2) + 1 + M + 1) + 1 by rw [Nat.succ_mul]; omega]
    simp only [impl_ContourMany.l2]
    rw [if_pos (by omega), ml_len]
    have := impl_l3 s hs M hM c i hc f B hf hB b (by omega) M (k + d * (M + 2) + 1) 0 (by omega)
    rw [show (ml M (fun j => if j < b then ps c f M j else if j = b then ps c f 0 j else 0)) = ml M (fun j => if j < b then ps c f M j else 0) from ml_congr _ _ _ (fun j _ => by simp [ps]), show ((0 : Nat) : Int) = 0 from rfl] at this
    rw [this, ih k (b + 1) (by omega)]
end
theorem spec_l4 (M : Nat) (hM : M ≤ 21) (f : Nat → Int) (B : Nat) (hf : Bd f B) (hB : B ≤ 37822859361) : ∀ (d k a : Nat), a + d = M →
    spec_ContourMany.l4 (k + d + 1) ((M : Int) - 1) (ml M f) (tot f a) (a : Int) = some (tot f M) := by
  intro d
  induction d with
  | zero =>
    intro k a ha
    simp only [spec_ContourMany.l4]
    rw [if_neg (by omega), show a = M by omega]
  | succ d ih =>
    intro k a ha
    obtain ⟨q, hq⟩ : ∃ q, k + d + 1 = q := ⟨_, rfl⟩
    rw [show k + (d + 1) + 1 = q + 1 by omega]
    have t := tot_bd2 hf hB a (by omega)
    have t2 := hf a
    simp only [spec_ContourMany.l4]
    subst hq
    rw [if_pos (by omega), if_pos (by omega), if_pos (by rw [ml_len]; omega), ml_rd _ _ _ (by omega), w64 (by omega) (by omega), w_succ (by omega)]
    exact ih k (a + 1) (by omega)
theorem impl_l4 (M : Nat) (hM : M ≤ 21) (f : Nat → Int) (B : Nat) (hf : Bd f B) (hB : B ≤ 37822859361) : ∀ (d k a : Nat), a + d = M →
    impl_ContourMany.l4 (k + d + 1) (tot f a) (ml M f) (M : Int) (a : Int) = some (tot f M) := by
  intro d
  induction d with
  | zero =>
    intro k a ha
    simp only [impl_ContourMany.l4]
    rw [if_neg (by omega), show a = M by omega]
  | succ d ih =>
    intro k a ha
    obtain ⟨q, hq⟩ : ∃ q, k + d + 1 = q := ⟨_, rfl⟩
    rw [show k + (d + 1) + 1 = q + 1 by omega]
    have t := tot_bd2 hf hB a (by omega)
    have t2 := hf a
    simp only [impl_ContourMany.l4]
    subst hq
    rw [if_pos (by omega), if_pos (by omega), if_pos (by rw [ml_len]; omega), ml_rd _ _ _ (by omega), w64 (by omega) (by omega), w_succ (by omega)]
    exact ih k (a + 1) (by omega)
/-- The rounds that one way takes. -/
def rnd (M : Nat) : Nat := M * (M + 2) + 2
theorem pow_le (B d : Nat) : B ≤ B * 21 ^ d := Nat.le_mul_of_pos_right _ (Nat.pow_pos (by omega))
theorem pow_step (B d : Nat) : 21 * B * 21 ^ d = B * 21 ^ (d + 1) := by rw [Nat.pow_succ, Nat.mul_comm 21 B, Nat.mul_assoc, Nat.mul_comm 21 (21 ^ d)]
theorem spec_l1 (s : ByteArray) (hs : s.size ≤ 1000) (M : Nat) (h1 : 1 ≤ M) (hM : M ≤ 21) : ∀ (d k i : Nat) (f : Nat → Int) (B : Nat), i + d = s.size → Bd f B → B * 21 ^ d ≤ 37822859361 →
    spec_ContourMany.l1 (k + M + 1 + d * rnd M + 1) s ((M : Int) - 1) (ml M f) (i : Int) = some (tot (rows M ((L s).drop i) f) M) := by
  intro d
  induction d with
  | zero =>
    intro k i f B hi hf hB
    rw [show k + M + 1 + 0 * rnd M + 1 = (k + M + 1) + 1 by omega]
    simp only [spec_ContourMany.l1]
    rw [if_neg (by omega), show (L s).drop i = [] from List.drop_eq_nil_of_le (by rw [← L_size]; omega)]
    have := spec_l4 M hM f B hf (by simpa using hB) M k 0 (by omega)
    exact this
  | succ d ih =>
    intro k i f B hi hf hB
    obtain ⟨c, hc, hd⟩ := drop_c (L s) i (by rw [← L_size]; omega)
    have hB1 := pow_le B (d + 1)
    rw [show k + M + 1 + (d + 1) * rnd M + 1 = (k + M + 1 + d * rnd M + 1 + M * (M + 2) + 1) + 1 by rw [Nat.succ_mul]; unfold rnd; omega]
    simp only [spec_ContourMany.l1]
    have hw : wrap64 ((M : Int) - 1 + 1) = (M : Int) := by rw [w64 (by omega) (by omega)]; omega
    rw [if_pos (by omega), hw, if_pos (by omega), Int.toNat_natCast, if_pos (by omega), ml_rep]
    have := spec_l2 s hs M hM c i hc f B hf (by omega) M (k + M + 1 + d * rnd M + 1) 0 (by omega)
    rw [show (ml M (fun j => ps c f 0 j)) = ml M (fun _ => 0) from rfl, show ((0 : Nat) : Int) = 0 from rfl] at this
    rw [this, ih k (i + 1) (nxt M c f) (21 * B) (by omega) (nxt_bd hf M hM c) (by rw [pow_step]; exact hB), hd]
    rfl
theorem impl_l1 (s : ByteArray) (hs : s.size ≤ 1000) (M : Nat) (h1 : 1 ≤ M) (hM : M ≤ 21) : ∀ (d k i : Nat) (f : Nat → Int) (B : Nat), i + d = s.size → Bd f B → B * 21 ^ d ≤ 37822859361 →
    impl_ContourMany.l1 (k + M + 1 + d * rnd M + 1) s ((M : Int) - 1) (ml M f) (s.size : Int) (i : Int) = some (tot (rows M ((L s).drop i) f) M) := by
  intro d
  induction d with
  | zero =>
    intro k i f B hi hf hB
    rw [show k + M + 1 + 0 * rnd M + 1 = (k + M + 1) + 1 by omega]
    simp only [impl_ContourMany.l1]
    rw [if_neg (by omega), show (L s).drop i = [] from List.drop_eq_nil_of_le (by rw [← L_size]; omega), ml_len]
    have := impl_l4 M hM f B hf (by simpa using hB) M k 0 (by omega)
    exact this
  | succ d ih =>
    intro k i f B hi hf hB
    obtain ⟨c, hc, hd⟩ := drop_c (L s) i (by rw [← L_size]; omega)
    have hB1 := pow_le B (d + 1)
    rw [show k + M + 1 + (d + 1) * rnd M + 1 = (k + M + 1 + d * rnd M + 1 + M * (M + 2) + 1) + 1 by rw [Nat.succ_mul]; unfold rnd; omega]
    simp only [impl_ContourMany.l1]
    have hw : wrap64 ((M : Int) - 1 + 1) = (M : Int) := by rw [w64 (by omega) (by omega)]; omega
    rw [if_pos (by omega), hw, if_pos (by omega), Int.toNat_natCast, if_pos (by omega), ml_rep]
    simp only [bs]
    rw [ml_len]
    have := impl_l2 s hs M hM c i hc f B hf (by omega) M (k + M + 1 + d * rnd M + 1) 0 (by omega)
    rw [show (ml M (fun j => if j < 0 then ps c f M j else 0)) = ml M (fun _ => 0) from ml_congr _ _ _ (fun j _ => by simp), show ((0 : Nat) : Int) = 0 from rfl] at this
    rw [this, ih k (i + 1) (nxt M c f) (21 * B) (by omega) (nxt_bd hf M hM c) (by rw [pow_step]; exact hB), hd]
    rfl
theorem spec_l0 (s : ByteArray) (M : Nat) (hM : M ≤ 21) : ∀ (d k a : Nat), a + d = M →
    spec_ContourMany.l0 (k + d + 1) s ((M : Int) - 1) (ml a (fun _ => 1)) (a : Int) = spec_ContourMany.l1 k s ((M : Int) - 1) (ml M (fun _ => 1)) 0 := by
  intro d
  induction d with
  | zero =>
    intro k a ha
    simp only [spec_ContourMany.l0]
    rw [if_neg (by omega), show a = M by omega]
  | succ d ih =>
    intro k a ha
    obtain ⟨q, hq⟩ : ∃ q, k + d + 1 = q := ⟨_, rfl⟩
    rw [show k + (d + 1) + 1 = q + 1 by omega]
    simp only [spec_ContourMany.l0]
    subst hq
    rw [if_pos (by omega), if_pos (by rw [ml_len]; omega), w_succ (by omega), ml_snoc a (fun _ => 1)]
    exact ih k (a + 1) (by omega)
theorem impl_l0 (s : ByteArray) (M : Nat) (hM : M ≤ 21) : ∀ (d k a : Nat), a + d = M →
    impl_ContourMany.l0 (k + d + 1) s ((M : Int) - 1) (ml M (fun j => if j < a then 1 else 0)) (M : Int) (a : Int) = impl_ContourMany.l1 k s ((M : Int) - 1) (ml M (fun _ => 1)) (s.size : Int) 0 := by
  intro d
  induction d with
  | zero =>
    intro k a ha
    simp only [impl_ContourMany.l0]
    rw [if_neg (by omega), ml_congr M _ (fun _ => 1) (fun j hj => by rw [if_pos (by omega)])]
  | succ d ih =>
    intro k a ha
    obtain ⟨q, hq⟩ : ∃ q, k + d + 1 = q := ⟨_, rfl⟩
    rw [show k + (d + 1) + 1 = q + 1 by omega]
    simp only [impl_ContourMany.l0]
    subst hq
    rw [if_pos (by omega), if_pos (by omega), if_pos (by rw [ml_len]; omega), w_succ (by omega), Int.toNat_natCast, ml_set, ← ih k (a + 1) (by omega)]
    congr 1
    apply ml_congr
    intro j hj
    by_cases h : j = a
    · rw [if_pos h, if_pos (by omega)]
    · rw [if_neg h]
      by_cases h2 : j < a
      · rw [if_pos h2, if_pos (by omega)]
      · rw [if_neg h2, if_neg (by omega)]
/-- The number of lists of steps below M with a contour. -/
def mny (l : List UInt8) (M : Nat) : Int := tot (rows M l (fun _ => 1)) M
/-- What ContourMany comes to. -/
def manyV (s : ByteArray) (m : Int) : Int := if cv s = true ∧ s.size ≤ 8 ∧ 0 ≤ m ∧ m ≤ 20 then mny (L s) (m + 1).toNat else -1
theorem one_bd : Bd (fun _ => 1) 1 := fun _ => ⟨by show (0 : Int) ≤ 1; omega, by show (1 : Int) ≤ ((1 : Nat) : Int); omega⟩
theorem rnd_le (M : Nat) (hM : M ≤ 21) (d : Nat) (hd : d ≤ 8) : d * rnd M ≤ 8 * 485 := by
  apply Nat.mul_le_mul hd
  have : M * (M + 2) ≤ 21 * 23 := Nat.mul_le_mul hM (by omega)
  unfold rnd
  omega
theorem pow8 (d : Nat) (hd : d ≤ 8) : 1 * 21 ^ d ≤ 37822859361 := by
  have : 21 ^ d ≤ 21 ^ 8 := Nat.pow_le_pow_right (by omega) hd
  rw [show (21 : Nat) ^ 8 = 37822859361 by decide] at this
  omega
theorem implMany (s : ByteArray) (hs : s.size ≤ 1100000) (m : Int) (k : Nat) (hk : s.size + 6000 ≤ k) : impl_ContourMany.f k s m = some (manyV s m) := by
  obtain ⟨k, rfl⟩ : ∃ j, k = j + 1 := ⟨k - 1, by omega⟩
  have bad : impl_ContourMany.j0 (k + 1) s m true = some (-1) := by simp only [impl_ContourMany.j0]; rw [if_pos trivial]
  unfold impl_ContourMany.f manyV
  rw [implCV s hs]
  simp only [bs]
  by_cases h : cv s = true
  · rw [if_pos h]
    by_cases h2 : (s.size : Int) > 8
    · rw [if_pos h2, bad, if_neg (fun e => by omega)]
    · rw [if_neg h2]
      by_cases h3 : m < 0
      · rw [if_pos h3, bad, if_neg (fun e => by omega)]
      · rw [if_neg h3]
        by_cases h4 : m > 20
        · rw [decide_eq_true h4, bad, if_neg (fun e => by omega)]
        · rw [decide_eq_false h4, if_pos ⟨h, by omega, by omega, by omega⟩]
          obtain ⟨M, hMm⟩ : ∃ M : Nat, m = (M : Int) - 1 := ⟨(m + 1).toNat, by omega⟩
          subst hMm
          have hw : wrap64 ((M : Int) - 1 + 1) = (M : Int) := by rw [w64 (by omega) (by omega)]; omega
          have he : ((M : Int) - 1 + 1).toNat = M := by omega
          simp only [impl_ContourMany.j0]
          rw [if_neg (by simp), hw, if_pos (by omega), Int.toNat_natCast, if_pos (by omega), he, ml_rep]
          simp only [bs]
          rw [ml_len]
          have hr := rnd_le M (by omega) s.size (by omega)
          have a := impl_l0 s M (by omega) M (k - M - 1) 0 (by omega)
          rw [show k - M - 1 + M + 1 = k by omega, show (ml M (fun j => if j < 0 then (1 : Int) else 0)) = ml M (fun _ => 0) from ml_congr _ _ _ (fun j _ => by simp), show ((0 : Nat) : Int) = 0 from rfl] at a
          rw [a]
          have b := impl_l1 s (by omega) M (by omega) (by omega) s.size (k - M - 1 - M - 2 - s.size * rnd M) 0 (fun _ => 1) 1 (by omega) one_bd (pow8 _ (by omega))
          rw [show k - M - 1 - M - 2 - s.size * rnd M + M + 1 + s.size * rnd M + 1 = k - M - 1 by omega, show ((0 : Nat) : Int) = 0 from rfl, List.drop_zero] at b
          exact b
  · rw [if_neg h, bad, if_neg (fun e => h e.1)]
theorem specMany (s : ByteArray) (hs : s.size ≤ 1100000) (m : Int) (k : Nat) (hk : s.size + 6000 ≤ k) : spec_ContourMany.f k s m = some (manyV s m) := by
  obtain ⟨k, rfl⟩ : ∃ j, k = j + 1 := ⟨k - 1, by omega⟩
  have bad : spec_ContourMany.j0 (k + 1) s m true = some (-1) := by simp only [spec_ContourMany.j0]; rw [if_pos trivial]
  unfold spec_ContourMany.f manyV spec_l6In.f
  rw [specCV s hs _ (by omega)]
  simp only [bs]
  by_cases h : cv s = true
  · rw [if_pos h]
    by_cases h2 : (s.size : Int) > 8
    · rw [if_pos h2, bad, if_neg (fun e => by omega)]
    · rw [if_neg h2]
      by_cases h3 : m ≥ 0
      · rw [if_pos h3]
        simp only [bs]
        by_cases h4 : m ≤ 20
        · rw [decide_eq_true h4, if_pos ⟨h, by omega, by omega, by omega⟩]
          obtain ⟨M, hMm⟩ : ∃ M : Nat, m = (M : Int) - 1 := ⟨(m + 1).toNat, by omega⟩
          subst hMm
          have he : ((M : Int) - 1 + 1).toNat = M := by omega
          simp only [spec_ContourMany.j0]
          rw [if_neg (by simp), he]
          have hr := rnd_le M (by omega) s.size (by omega)
          have a := spec_l0 s M (by omega) M (k - M - 1) 0 (by omega)
          rw [show k - M - 1 + M + 1 = k by omega, show (ml 0 (fun _ => (1 : Int))) = [] from rfl, show ((0 : Nat) : Int) = 0 from rfl] at a
          rw [a]
          have b := spec_l1 s (by omega) M (by omega) (by omega) s.size (k - M - 1 - M - 2 - s.size * rnd M) 0 (fun _ => 1) 1 (by omega) one_bd (pow8 _ (by omega))
          rw [show k - M - 1 - M - 2 - s.size * rnd M + M + 1 + s.size * rnd M + 1 = k - M - 1 by omega, show ((0 : Nat) : Int) = 0 from rfl, List.drop_zero] at b
          exact b
        · rw [decide_eq_false h4]
          show spec_ContourMany.j0 (k + 1) s m true = _
          rw [bad, if_neg (fun e => h4 e.2.2.2)]
      · rw [if_neg h3]
        simp only [bs]
        show spec_ContourMany.j0 (k + 1) s m true = _
        rw [bad, if_neg (fun e => h3 e.2.2.1)]
  · rw [if_neg h, bad, if_neg (fun e => h e.1)]
theorem FnExactContourMany (s : ByteArray) (m : Int) (_ : s.size ≤ 140737488351232) (_ : (Lit.int .i64 m).wf = true) : ∃ k, laws_FnExactContourMany.f k s m = some true := by
  refine ⟨s.size + 6000, ?_⟩
  unfold laws_FnExactContourMany.f
  by_cases h : (s.size : Int) > 1048576
  · rw [if_pos h]
  rw [if_neg h, specMany s (by omega) _ _ (by omega), implMany s (by omega) _ _ (by omega)]
  simp only [bs, if_true]
end Go.Proofs.YtnbjfkjpaaoooaaDoor.ZA
