/- The plain laws: what the Lean functions of the walks come to. No program and no memory in sight. No condition beyond what each theorem says. -/
import Derived.Test.YtnbjfkjpaaoooaaDoorXNx1
import Derived.Test.YtnbjfkjpaaoooaaDoorXNx2
import Derived.Test.YtnbjfkjpaaoooaaDoorXNx3
import Derived.Test.YtnbjfkjpaaoooaaDoorXNx4
import Derived.Test.YtnbjfkjpaaoooaaDoorXNx5
import Derived.Test.YtnbjfkjpaaoooaaDoorXNx6
import Derived.Lib.IndexLaws
import Derived.Lib.IndexBytes
namespace Go.Proofs.YtnbjfkjpaaoooaaDoor.ZN
open Go.RowKit Go.Proofs.YtnbjfkjpaaoooaaDoor.XN Go.Proofs.YtnbjfkjpaaoooaaDoorW.PrintWords Go.Proofs.YtnbjfkjpaaoooaaDoorW.PrintLast
set_option linter.unusedVariables false
set_option linter.unusedSimpArgs false
theorem w64 {x : Int} (h0 : -9223372036854775808 ≤ x) (h1 : x < 9223372036854775808) : wrap64 x = x := by unfold wrap64; omega
/-- Not by rfl: so simp leaves a proof, and the kernel need not compare the two sides by running them. -/
theorem bs {α β : Type} (a : α) (f : α → Option β) : (some a).bind f = f a := by
  have h : ∀ o : Option α, o = some a → o.bind f = f a := by
    rintro _ rfl
    rfl
  exact h _ rfl
abbrev L (s : ByteArray) : List UInt8 := s.data.toList
theorem L_size (s : ByteArray) : s.size = (L s).length := Lib.size_eq s
theorem ba_ext {x y : ByteArray} (h : L x = L y) : x = y := by
  obtain ⟨⟨a⟩⟩ := x
  obtain ⟨⟨b⟩⟩ := y
  simp only [L] at h
  rw [h]
theorem L_mk (l : List UInt8) : L ⟨l.toArray⟩ = l := by simp [L]
theorem mk_L (s : ByteArray) : (⟨(L s).toArray⟩ : ByteArray) = s := ba_ext (L_mk _)
theorem bt_n (s : ByteArray) (n : Nat) (c : UInt8) (h : (L s)[n]? = some c) : bt s (n : Int) = (c.toNat : Int) := by
  have hn : n < s.size := by rw [L_size]; exact (List.getElem?_eq_some_iff.1 h).1
  unfold bt
  rw [dif_pos (by simpa using hn)]
  have e : s[((n : Int).toNat)]'(by simpa using hn) = c := by
    have h2 := (List.getElem?_eq_some_iff.1 h).2
    rw [← h2]
    rfl
  rw [e]
theorem drop_c (l : List UInt8) (n : Nat) (h : n < l.length) : ∃ c, l[n]? = some c ∧ l.drop n = c :: l.drop (n + 1) :=
  ⟨l[n], List.getElem?_eq_getElem h, List.drop_eq_getElem_cons h⟩
theorem w_succ {n : Nat} (h : n < 4611686018427387904) : wrap64 ((n : Int) + 1) = ((n + 1 : Nat) : Int) := by
  rw [w64 (by omega) (by omega)]; omega
theorem round {k d : Nat} (h : d < k) : ∃ m, k = m + 1 := ⟨k - 1, by omega⟩
theorem u8_of {c : UInt8} {k : Nat} (hk : k < 256) : ((c.toNat : Int) = (k : Int)) ↔ c = UInt8.ofNat k := by
  constructor
  · intro h
    apply UInt8.toNat_inj.1
    rw [UInt8.toNat_ofNat_of_lt' hk]
    omega
  · rintro rfl
    rw [UInt8.toNat_ofNat_of_lt' hk]
theorem toList_L (s : ByteArray) : s.toList = L s := Lib.toList_data s
theorem dw_nil {α : Type} (p : α → Bool) : ∀ m : List α, m.dropWhile p = [] ↔ ∀ c ∈ m, p c = true
  | [] => by simp
  | a :: m => by
    rw [List.dropWhile_cons]
    by_cases h : p a = true
    · rw [if_pos h, dw_nil p m]
      simp [h]
    · rw [if_neg h]
      simp [h]
theorem dw_cons {α : Type} (p : α → Bool) : ∀ (l : List α) (a : α) (m : List α), l.dropWhile p = a :: m → p a = false
  | [], a, m, h => by simp at h
  | b :: l, a, m, h => by
    rw [List.dropWhile_cons] at h
    by_cases hb : p b = true
    · rw [if_pos hb] at h
      exact dw_cons p l a m h
    · rw [if_neg hb] at h
      injection h with h1 _
      rw [← h1]
      simpa using hb
theorem trim_nil (l cs : List UInt8) : Lib.trimS l cs = [] ↔ ∀ c ∈ l, cs.contains c = true := by
  have hr : ∀ m : List UInt8, m.dropWhile (cs.contains ·) = [] ↔ ∀ c ∈ m, cs.contains c = true := fun m => dw_nil _ m
  unfold Lib.trimS Lib.trimLeftS
  rw [hr]
  unfold Lib.trimRightS
  constructor
  · intro h
    have h1 : l.reverse.dropWhile (cs.contains ·) = [] := by
      cases hm : l.reverse.dropWhile (cs.contains ·) with
      | nil => rfl
      | cons a m =>
        have h2 : cs.contains a = false := dw_cons (cs.contains ·) l.reverse a m hm
        have := h a (by rw [hm]; simp)
        rw [h2] at this
        cases this
    intro c hc
    exact (hr l.reverse).1 h1 c (by simpa using hc)
  · intro h c hc
    have : c ∈ l.reverse.dropWhile (cs.contains ·) := by simpa using hc
    exact h c (by simpa using (List.dropWhile_sublist _).subset this)
theorem is_u (c : UInt8) : ((c.toNat : Int) = 117) ↔ c = 117 := u8_of (k := 117) (by omega)
theorem is_d (c : UInt8) : ((c.toNat : Int) = 100) ↔ c = 100 := u8_of (k := 100) (by omega)
theorem is_s (c : UInt8) : ((c.toNat : Int) = 115) ↔ c = 115 := u8_of (k := 115) (by omega)
/-- A way. -/
def wayC (c : UInt8) : Bool := c == 117 || (c == 100 || c == 115)
theorem wayC_cases (c : UInt8) (h : wayC c = true) : c = 117 ∨ c = 100 ∨ c = 115 := by
  simpa [wayC] using h
/-- A contour. -/
def cv (s : ByteArray) : Bool := (L s).all wayC && decide (s.size < 24)
theorem cvalid_loop (s : ByteArray) (hs : s.size ≤ 1100000) (d : Nat) : ∀ k n : Nat, n + d = s.size → d < k →
    spec_ContourValid.l0 k s (n : Int) = some (((L s).drop n).all wayC && decide (s.size < 24)) := by
  induction d with
  | zero =>
    intro k n hn hk
    obtain ⟨k, rfl⟩ := round hk
    simp only [spec_ContourValid.l0]
    rw [if_neg (by omega), show (L s).drop n = [] from List.drop_eq_nil_of_le (by rw [← L_size]; omega)]
    simp
    omega
  | succ d ih =>
    intro k n hn hk
    obtain ⟨k, rfl⟩ := round hk
    obtain ⟨c, hc, hd⟩ := drop_c (L s) n (by rw [← L_size]; omega)
    simp only [spec_ContourValid.l0]
    rw [if_pos (by omega), if_pos (by omega), bt_n s n c hc, w_succ (by omega), ih k (n + 1) (by omega) (by omega), hd, List.all_cons]
    by_cases h : c = 117
    · subst h
      rw [if_pos (by decide)]
      simp [wayC]
    · rw [if_neg (fun e => h ((is_u c).1 e))]
      by_cases h2 : c = 100
      · subst h2
        rw [if_pos (by decide)]
        simp [wayC]
      · rw [if_neg (fun e => h2 ((is_d c).1 e))]
        by_cases h3 : c = 115
        · subst h3
          rw [if_pos (by decide)]
          simp [wayC]
        · rw [if_neg (fun e => h3 ((is_s c).1 e))]
          have : wayC c = false := by simp [wayC, h, h2, h3]
          rw [this]
          simp
theorem specCV (s : ByteArray) (hs : s.size ≤ 1100000) (k : Nat) (hk : s.size < k) : spec_ContourValid.f k s = some (cv s) := by
  unfold spec_ContourValid.f cv
  have := cvalid_loop s hs s.size k 0 (by omega) hk
  rw [show ((0 : Nat) : Int) = 0 from rfl] at this
  rw [this, List.drop_zero]
theorem implCV (s : ByteArray) (hs : s.size ≤ 1100000) : impl_ContourValid.f s = some (cv s) := by
  unfold impl_ContourValid.f cv strings_Trim.f
  by_cases h : s.size < 24
  · rw [if_pos (by omega), if_pos ⟨by omega, by decide, by decide⟩, decide_eq_true h, Bool.and_true]
    simp only [bs, toList_L, L_mk]
    congr 1
    rw [Bool.eq_iff_iff, beq_iff_eq, trim_nil, List.all_eq_true]
    constructor
    · intro g c hc
      have := g c hc
      simpa [wayC] using this
    · intro g c hc
      have := g c hc
      simpa [wayC] using this
  · rw [if_neg (by omega), decide_eq_false h, Bool.and_false]
theorem cv_size (s : ByteArray) (h : cv s = true) : s.size < 24 := by
  unfold cv at h
  rw [Bool.and_eq_true, decide_eq_true_eq] at h
  exact h.2
theorem cv_all (s : ByteArray) (h : cv s = true) : ∀ c ∈ L s, wayC c = true := by
  unfold cv at h
  rw [Bool.and_eq_true, List.all_eq_true] at h
  exact h.1
theorem cv_mk (l : List UInt8) (h : ∀ c ∈ l, wayC c = true) (hn : l.length < 24) : cv ⟨l.toArray⟩ = true := by
  unfold cv
  rw [Bool.and_eq_true, List.all_eq_true, decide_eq_true_eq, L_size, L_mk]
  exact ⟨h, hn⟩
/-- The opposite way. -/
def ot (c : UInt8) : UInt8 := if c = 117 then 100 else if c = 100 then 117 else 115
theorem ot_way (c : UInt8) : wayC (ot c) = true := by
  unfold ot
  split
  · rfl
  · split <;> rfl
theorem ot_ot (c : UInt8) (h : wayC c = true) : ot (ot c) = c := by
  rcases wayC_cases c h with rfl | rfl | rfl <;> decide
theorem turned_eq (c : UInt8) (h : wayC c = true) : impl_turnedWay.f (c.toNat : Int) = some ((ot c).toNat : Int) := by
  rcases wayC_cases c h with rfl | rfl | rfl <;> decide
theorem strOf (l : List UInt8) : strOfNums (l.map fun c => (c.toNat : Int)) = ⟨l.toArray⟩ := by
  unfold strOfNums
  rw [List.map_map]
  congr 2
  conv => rhs; rw [← List.map_id l]
  apply List.map_congr_left
  intro c _
  simp
theorem ba_push (l : List UInt8) (c : UInt8) : (⟨l.toArray⟩ : ByteArray) ++ ⟨#[c]⟩ = ⟨(l ++ [c]).toArray⟩ := ba_ext (by simp [L])
theorem sz_mk (l : List UInt8) : (⟨l.toArray⟩ : ByteArray).size = l.length := by rw [L_size, L_mk]
theorem sz_one (c : UInt8) : (⟨#[c]⟩ : ByteArray).size = 1 := rfl
theorem implTurn_loop (s : ByteArray) (hs : s.size ≤ 1000) (hw : ∀ c ∈ L s, wayC c = true) (d : Nat) : ∀ (k n : Nat) (x : List UInt8), n + d = s.size → d < k → x.length = n →
    impl_ContourTurn.l0 k s (x.map fun c => (c.toNat : Int)) (s.size : Int) (n : Int) = some (⟨(x ++ ((L s).drop n).map ot).toArray⟩, true) := by
  induction d with
  | zero =>
    intro k n x hn hk hx
    obtain ⟨k, rfl⟩ := round hk
    simp only [impl_ContourTurn.l0]
    rw [if_neg (by omega), show (L s).drop n = [] from List.drop_eq_nil_of_le (by rw [← L_size]; omega), strOf]
    simp
  | succ d ih =>
    intro k n x hn hk hx
    obtain ⟨k, rfl⟩ := round hk
    obtain ⟨c, hc, hd⟩ := drop_c (L s) n (by rw [← L_size]; omega)
    simp only [impl_ContourTurn.l0]
    rw [if_pos (by omega), if_pos (by omega), if_pos (by omega), bt_n s n c hc, turned_eq c (hw c (List.mem_of_getElem? hc))]
    simp only [bs]
    have e : (x.map fun c => (c.toNat : Int)) ++ [((ot c).toNat : Int)] = (x ++ [ot c]).map fun c => (c.toNat : Int) := by simp
    rw [if_pos (by rw [List.length_map]; omega), e, w_succ (by omega), ih k (n + 1) _ (by omega) (by omega) (by simp; omega), hd]
    simp
/-- The turned contour. -/
def turnB (s : ByteArray) : ByteArray := ⟨((L s).map ot).toArray⟩
theorem implTurn (s : ByteArray) (hs : s.size ≤ 1100000) (k : Nat) (hk : s.size < k) : impl_ContourTurn.f k s = some (if cv s = true then (turnB s, true) else (⟨#[]⟩, false)) := by
  unfold impl_ContourTurn.f
  rw [implCV s hs]
  simp only [bs]
  by_cases h : cv s = true
  · rw [if_pos h, if_pos h]
    have := implTurn_loop s (by have := cv_size s h; omega) (cv_all s h) s.size k 0 [] (by omega) hk rfl
    rw [show ((0 : Nat) : Int) = 0 from rfl, List.nil_append, List.drop_zero] at this
    exact this
  · rw [if_neg h, if_neg h]
theorem implBack_loop (s : ByteArray) (hs : s.size ≤ 1000) (hw : ∀ c ∈ L s, wayC c = true) : ∀ (n k : Nat) (x : List UInt8), n ≤ s.size → n < k → x.length + n = s.size →
    impl_ContourBack.l0 k s (x.map fun c => (c.toNat : Int)) ((n : Int) - 1) = some (⟨(x ++ ((L s).take n).reverse.map ot).toArray⟩, true) := by
  intro n
  induction n with
  | zero =>
    intro k x hn hk hx
    obtain ⟨k, rfl⟩ := round hk
    simp only [impl_ContourBack.l0]
    rw [if_neg (by omega), strOf]
    simp
  | succ n ih =>
    intro k x hn hk hx
    obtain ⟨k, rfl⟩ := round hk
    obtain ⟨c, hc, _⟩ := drop_c (L s) n (by rw [← L_size]; omega)
    simp only [impl_ContourBack.l0]
    rw [show ((n + 1 : Nat) : Int) - 1 = (n : Int) by omega, if_pos (by omega), if_pos (by omega), if_pos (by omega), bt_n s n c hc, turned_eq c (hw c (List.mem_of_getElem? hc))]
    simp only [bs]
    have e : (x.map fun c => (c.toNat : Int)) ++ [((ot c).toNat : Int)] = (x ++ [ot c]).map fun c => (c.toNat : Int) := by simp
    rw [if_pos (by rw [List.length_map]; omega), e, w64 (x := (n : Int) - 1) (by omega) (by omega), ih k _ (by omega) (by omega) (by simp; omega), List.take_add_one, hc]
    simp
/-- The contour of the tones in the opposite order. -/
def backB (s : ByteArray) : ByteArray := ⟨((L s).reverse.map ot).toArray⟩
theorem implBack (s : ByteArray) (hs : s.size ≤ 1100000) (k : Nat) (hk : s.size < k) : impl_ContourBack.f k s = some (if cv s = true then (backB s, true) else (⟨#[]⟩, false)) := by
  unfold impl_ContourBack.f
  rw [implCV s hs]
  simp only [bs]
  by_cases h : cv s = true
  · rw [if_pos h, if_pos h]
    have := implBack_loop s (by have := cv_size s h; omega) (cv_all s h) s.size k [] (by omega) hk (by simp)
    rw [L_size s, List.take_length, List.nil_append, ← L_size s] at this
    rw [w64 (by omega) (by omega)]
    exact this
  · rw [if_neg h, if_neg h]
abbrev mk (l : List UInt8) : ByteArray := ⟨l.toArray⟩
def ext3 : List (List UInt8) → List (List UInt8)
  | [] => []
  | c :: l => (c ++ [117]) :: (c ++ [100]) :: (c ++ [115]) :: ext3 l
/-- All contours of so many ways. -/
def c3 : Nat → List (List UInt8)
  | 0 => [[]]
  | n + 1 => ext3 (c3 n)
def allL : List (List UInt8) := c3 0 ++ (c3 1 ++ (c3 2 ++ c3 3))
/-- The name of a neume. -/
def nameV (s : ByteArray) : ByteArray := if cv s = true ∧ s.size ≤ 3 then nmFrom s nps else ⟨#[]⟩
theorem implName (s : ByteArray) (hs : s.size ≤ 1100000) : impl_NeumeName.f s = some (nameV s) := by
  unfold impl_NeumeName.f nameV
  rw [implCV s hs]
  simp only [bs]
  by_cases h : cv s = true
  · rw [if_pos h]
    by_cases h2 : (s.size : Int) > 3
    · rw [if_pos h2, if_neg (fun e => by omega)]
    · rw [if_neg h2, if_pos ⟨h, by omega⟩]
  · rw [if_neg h, if_neg (fun e => h e.1)]
theorem nm_chain (s : ByteArray) : nmFrom s nps = if s.toList = [] then ⟨#[112, 117, 110, 99, 116, 117, 109]⟩ else if s.toList = [117] then ⟨#[112, 101, 115]⟩ else if s.toList = [100] then ⟨#[99, 108, 105, 118, 105, 115]⟩ else if s.toList = [117, 100] then ⟨#[116, 111, 114, 99, 117, 108, 117, 115]⟩ else if s.toList = [100, 117] then ⟨#[112, 111, 114, 114, 101, 99, 116, 117, 115]⟩ else if s.toList = [117, 117] then ⟨#[115, 99, 97, 110, 100, 105, 99, 117, 115]⟩ else if s.toList = [100, 100] then ⟨#[99, 108, 105, 109, 97, 99, 117, 115]⟩ else ⟨#[103, 114, 111, 117, 112, 45]⟩ ++ s := by
  simp only [nmFrom, nps, beq_iff_eq, @eq_comm _ _ s.toList]
theorem specName (s : ByteArray) (hs : s.size ≤ 1100000) (k : Nat) (hk : s.size < k) : spec_NeumeName.f k s = some (nameV s) := by
  unfold spec_NeumeName.f nameV
  rw [specCV s hs k hk]
  simp only [bs]
  obtain ⟨k, rfl⟩ : ∃ m, k = m + 1 := ⟨k - 1, by omega⟩
  by_cases h : cv s = true
  · rw [if_pos h]
    by_cases h2 : (s.size : Int) ≥ 4
    · rw [decide_eq_true h2, if_neg (fun e => by omega)]
      simp only [spec_NeumeName.j0]
      rw [if_pos trivial]
    · rw [decide_eq_false h2, if_pos ⟨h, by omega⟩, nm_chain]
      simp only [spec_NeumeName.j0]
      rw [if_neg (by simp), if_pos (show 6 + s.size ≤ 9223372036854775807 by omega)]
      simp only [apply_ite some]
  · rw [if_neg h, if_neg (fun e => h e.1)]
    simp only [spec_NeumeName.j0]
    rw [if_pos trivial]
theorem rd_mk (cs : List (List UInt8)) (i : Nat) (c : List UInt8) (h : cs[i]? = some c) : rdOf ByteArray.empty (cs.map mk) (i : Int) = mk c := by
  unfold rdOf
  rw [Int.toNat_natCast, List.getD_eq_getElem?_getD, List.getElem?_map, h]
  rfl
theorem drop_l {α : Type} (l : List α) (n : Nat) (h : n < l.length) : ∃ c, l[n]? = some c ∧ l.drop n = c :: l.drop (n + 1) :=
  ⟨l[n], List.getElem?_eq_getElem h, List.drop_eq_getElem_cons h⟩
theorem con_loop (cs : List (List UInt8)) (hl : cs.length ≤ 100) (hz : ∀ c ∈ cs, c.length ≤ 100) (d : Nat) : ∀ (k i : Nat) (acc : List (List UInt8)), i + d = cs.length → d < k → acc.length ≤ 3 * i →
    spec_l3Contours.l0 k (acc.map mk) (cs.map mk) (i : Int) = some ((acc ++ ext3 (cs.drop i)).map mk) := by
  induction d with
  | zero =>
    intro k i acc hi hk ha
    obtain ⟨k, rfl⟩ := round hk
    simp only [spec_l3Contours.l0]
    rw [if_neg (by rw [List.length_map]; omega), List.drop_eq_nil_of_le (by omega)]
    simp [ext3]
  | succ d ih =>
    intro k i acc hi hk ha
    obtain ⟨k, rfl⟩ := round hk
    obtain ⟨c, hc, hd⟩ := drop_l cs i (by omega)
    have hcl := hz c (List.mem_of_getElem? hc)
    simp only [spec_l3Contours.l0]
    rw [if_pos (by rw [List.length_map]; omega), if_pos (by omega), rd_mk cs i c hc, sz_mk, if_pos (by omega)]
    simp only [bs]
    rw [if_pos (by simp; omega), w_succ (by omega), ba_push, ba_push, ba_push]
    have ih := ih k (i + 1) (acc ++ [c ++ [117], c ++ [100], c ++ [115]]) (by omega) (by omega) (by simp; omega)
    rw [List.map_append] at ih
    rw [show ([mk (c ++ [117]), mk (c ++ [100]), mk (c ++ [115])] : List ByteArray) = [c ++ [117], c ++ [100], c ++ [115]].map mk from rfl, ih, hd]
    simp [ext3]
theorem c3_ok : ∀ n, n ≤ 3 → (c3 n).length ≤ 27 ∧ ∀ c ∈ c3 n, c.length ≤ 3 := by decide
theorem con_f : ∀ (n k : Nat), n ≤ 3 → 60 + n ≤ k → spec_l3Contours.f k (n : Int) = some ((c3 n).map mk)
  | 0, k, _, hk => by
    obtain ⟨k, rfl⟩ : ∃ m, k = m + 1 := ⟨k - 1, by omega⟩
    unfold spec_l3Contours.f
    rw [if_pos (by rfl)]
    rfl
  | n + 1, k, hn, hk => by
    obtain ⟨k, rfl⟩ : ∃ m, k = m + 1 := ⟨k - 1, by omega⟩
    have ih := con_f n k (by omega) (by omega)
    have h3 := c3_ok n (by omega)
    unfold spec_l3Contours.f
    rw [if_neg (by omega), w64 (by omega) (by omega), show ((n + 1 : Nat) : Int) - 1 = (n : Int) by omega, ih]
    simp only [bs]
    have := con_loop (c3 n) (by omega) (fun c hc => by have := h3.2 c hc; omega) (c3 n).length k 0 [] (by omega) (by omega) (by simp)
    rw [List.drop_zero, List.nil_append] at this
    exact this
/-- The first contour whose name is x0. -/
def find (x0 : ByteArray) : List (List UInt8) → Option (List UInt8)
  | [] => none
  | c :: l => if (nameV (mk c)).toList = x0.toList then some c else find x0 l
theorem find_append (x0 : ByteArray) (b : List (List UInt8)) : ∀ a : List (List UInt8), find x0 (a ++ b) = match find x0 a with | some c => some c | none => find x0 b
  | [] => rfl
  | c :: a => by
    simp only [List.cons_append, find]
    by_cases h : (nameV (mk c)).toList = x0.toList
    · rw [if_pos h, if_pos h]
    · rw [if_neg h, if_neg h, find_append x0 b a]
theorem find_some (x0 : ByteArray) (c : List UInt8) : ∀ l : List (List UInt8), find x0 l = some c → c ∈ l ∧ (nameV (mk c)).toList = x0.toList
  | [], h => by simp [find] at h
  | a :: l, h => by
    simp only [find] at h
    by_cases e : (nameV (mk a)).toList = x0.toList
    · rw [if_pos e] at h
      injection h with h
      subst h
      exact ⟨List.mem_cons_self, e⟩
    · rw [if_neg e] at h
      have := find_some x0 c l h
      exact ⟨List.mem_cons_of_mem _ this.1, this.2⟩
theorem find_none (x0 : ByteArray) : ∀ l : List (List UInt8), find x0 l = none → ∀ c ∈ l, (nameV (mk c)).toList ≠ x0.toList
  | [], _, c, hc => by simp at hc
  | a :: l, h, c, hc => by
    simp only [find] at h
    by_cases e : (nameV (mk a)).toList = x0.toList
    · rw [if_pos e] at h; cases h
    · rw [if_neg e] at h
      rcases List.mem_cons.1 hc with g | g
      · rw [g]; exact e
      · exact find_none x0 l h c g
def outF (x0 : ByteArray) (l : List (List UInt8)) (rest : Option (ByteArray × Bool)) : Option (ByteArray × Bool) :=
  match find x0 l with
  | some c => some (mk c, true)
  | none => rest
theorem nc_l1 (x0 : ByteArray) (n : Nat) (hn : n ≤ 3) (d : Nat) : ∀ (k i : Nat), i + d = (c3 n).length → 100 ≤ k →
    spec_NeumeContour.l1 (k + d + 1) x0 (n : Int) ((c3 n).map mk) (i : Int) = outF x0 ((c3 n).drop i) (spec_NeumeContour.l0 k x0 ((n + 1 : Nat) : Int)) := by
  have h3 := c3_ok n hn
  induction d with
  | zero =>
    intro k i hi hk
    simp only [spec_NeumeContour.l1]
    rw [if_neg (by rw [List.length_map]; omega), List.drop_eq_nil_of_le (by omega), w_succ (by omega)]
    rfl
  | succ d ih =>
    intro k i hi hk
    obtain ⟨c, hc, hd⟩ := drop_l (c3 n) i (by omega)
    have hcl := h3.2 c (List.mem_of_getElem? hc)
    obtain ⟨q, hq⟩ : ∃ q, k + d + 1 = q := ⟨_, rfl⟩
    rw [show k + (d + 1) + 1 = q + 1 by omega]
    simp only [spec_NeumeContour.l1]
    rw [if_pos (by rw [List.length_map]; omega), if_pos (by omega), rd_mk (c3 n) i c hc, specName _ (by rw [sz_mk]; omega) q (by rw [sz_mk]; omega)]
    simp only [bs]
    rw [w_succ (by omega), ← hq, ih k (i + 1) (by omega) hk, hd]
    unfold outF
    simp only [find]
    by_cases e : (nameV (mk c)).toList = x0.toList
    · rw [if_pos e, if_pos e]
    · rw [if_neg e, if_neg e]
theorem nc_l0 (x0 : ByteArray) (n : Nat) (hn : n ≤ 3) (k : Nat) (hk : 100 ≤ k) :
    spec_NeumeContour.l0 (k + (c3 n).length + 1 + 1) x0 (n : Int) = outF x0 (c3 n) (spec_NeumeContour.l0 k x0 ((n + 1 : Nat) : Int)) := by
  obtain ⟨q, hq⟩ : ∃ q, k + (c3 n).length + 1 = q := ⟨_, rfl⟩
  rw [hq]
  simp only [spec_NeumeContour.l0]
  rw [if_pos (by omega), con_f n q hn (by omega)]
  simp only [bs]
  have := nc_l1 x0 n hn (c3 n).length k 0 (by omega) hk
  rw [List.drop_zero, show ((0 : Nat) : Int) = 0 from rfl, hq] at this
  rw [this]
theorem specCon (x0 : ByteArray) : spec_NeumeContour.f 1000 x0 = outF x0 allL (some (⟨#[]⟩, false)) := by
  unfold spec_NeumeContour.f
  have a := nc_l0 x0 0 (by omega) 997 (by omega)
  have b := nc_l0 x0 1 (by omega) 992 (by omega)
  have c := nc_l0 x0 2 (by omega) 981 (by omega)
  have d := nc_l0 x0 3 (by omega) 952 (by omega)
  rw [show 997 + (c3 0).length + 1 + 1 = 1000 by decide, show ((0 : Nat) : Int) = 0 from rfl] at a
  rw [show 992 + (c3 1).length + 1 + 1 = 997 by decide] at b
  rw [show 981 + (c3 2).length + 1 + 1 = 992 by decide] at c
  rw [show 952 + (c3 3).length + 1 + 1 = 981 by decide] at d
  have e : spec_NeumeContour.l0 952 x0 ((3 + 1 : Nat) : Int) = some (⟨#[]⟩, false) := by
    rw [show (952 : Nat) = 951 + 1 from rfl]
    simp only [spec_NeumeContour.l0]
    rw [if_neg (by omega)]
  rw [a, b, c, d, e]
  unfold outF allL
  rw [find_append, find_append, find_append]
  cases find x0 (c3 0) with
  | some _ => rfl
  | none =>
    cases find x0 (c3 1) with
    | some _ => rfl
    | none =>
      cases find x0 (c3 2) with
      | some _ => rfl
      | none => rfl
theorem all_in : ∀ (l : List UInt8), (∀ c ∈ l, wayC c = true) → l.length ≤ 3 → l ∈ allL
  | [], _, _ => by decide
  | [a], h, _ => by
    rcases wayC_cases a (h a (by simp)) with rfl | rfl | rfl <;> decide
  | [a, b], h, _ => by
    rcases wayC_cases a (h a (by simp)) with rfl | rfl | rfl <;> rcases wayC_cases b (h b (by simp)) with rfl | rfl | rfl <;> decide
  | [a, b, c], h, _ => by
    rcases wayC_cases a (h a (by simp)) with rfl | rfl | rfl <;> rcases wayC_cases b (h b (by simp)) with rfl | rfl | rfl <;> rcases wayC_cases c (h c (by simp)) with rfl | rfl | rfl <;> decide
  | a :: b :: c :: d :: l, _, h => by simp at h
theorem rowsA : ∀ c ∈ allL, impl_NeumeContour.f (nameV (mk c)) = some (mk c, true) := by decide +kernel
theorem rowsB : ∀ p ∈ ncs, ∃ l ∈ allL, (nameV (mk l)).toList = p.1 := by decide +kernel
theorem nc_some (x0 : ByteArray) (c : ByteArray) : ∀ l, ncFrom x0 l = some c → ∃ p ∈ l, p.1 = x0.toList
  | [], h => by simp [ncFrom] at h
  | a :: l, h => by
    simp only [ncFrom] at h
    by_cases e : (a.1 == x0.toList) = true
    · exact ⟨a, List.mem_cons_self, by simpa using e⟩
    · rw [if_neg e] at h
      obtain ⟨p, h1, h2⟩ := nc_some x0 c l h
      exact ⟨p, List.mem_cons_of_mem _ h1, h2⟩
theorem mk_eq (s : ByteArray) : mk (L s) = s := mk_L s
theorem trim_len (a b : List UInt8) : (Lib.trimPrefix a b).length ≤ a.length := by
  unfold Lib.trimPrefix
  split
  · rw [List.length_drop]; omega
  · exact Nat.le_refl _
theorem implCon (x0 : ByteArray) (hs : x0.size ≤ 1100000) : impl_NeumeContour.f x0 = outF x0 allL (some (⟨#[]⟩, false)) := by
  unfold outF
  cases hf : find x0 allL with
  | some c =>
    obtain ⟨h1, h2⟩ := find_some x0 c allL hf
    rw [toList_L, toList_L] at h2
    rw [← ba_ext h2]
    exact rowsA c h1
  | none =>
    have hn := find_none x0 allL hf
    show impl_NeumeContour.f x0 = some (⟨#[]⟩, false)
    unfold impl_NeumeContour.f
    by_cases e0 : x0.toList.isEmpty = true
    · rw [if_pos e0]
    · rw [if_neg e0]
      cases hc : ncFrom x0 ncs with
      | some c =>
        obtain ⟨p, h1, h2⟩ := nc_some x0 c ncs hc
        obtain ⟨l, h3, h4⟩ := rowsB p h1
        exact absurd (h4.trans h2) (hn l h3)
      | none =>
        unfold strings_CutPrefix.f
        simp only [bs]
        have htl := trim_len x0.data.toList (#[103, 114, 111, 117, 112, 45] : Array UInt8).toList
        generalize Lib.trimPrefix x0.data.toList _ = r at htl ⊢
        generalize Lib.hasPrefix x0.data.toList _ = b
        cases b with
        | false => rw [if_neg (by simp)]
        | true =>
          have hx : x0.data.toList.length = x0.size := (L_size x0).symm
          rw [if_pos rfl, implName _ (by show (mk r).size ≤ _; rw [sz_mk]; omega)]
          simp only [bs]
          by_cases e : ((nameV (mk r)).toList == x0.toList) = true
          · exfalso
            have e := beq_iff_eq.1 e
            by_cases hv : cv (mk r) = true ∧ (mk r).size ≤ 3
            · have hin := all_in (L (mk r)) (cv_all _ hv.1) (by rw [← L_size]; exact hv.2)
              have := hn _ hin
              rw [mk_eq] at this
              exact this e
            · have : nameV (mk r) = ⟨#[]⟩ := by unfold nameV; rw [if_neg hv]
              rw [this, toList_L] at e
              rw [← e] at e0
              exact e0 rfl
          · rw [if_neg e]
theorem FnExactNeumeName (s : ByteArray) (_ : s.size ≤ 140737488351232) : ∃ k, laws_FnExactNeumeName.f k s = some true := by
  refine ⟨s.size + 2, ?_⟩
  unfold laws_FnExactNeumeName.f
  by_cases h : (s.size : Int) > 1048576
  · rw [if_pos h]
  rw [if_neg h, specName s (by omega) _ (by omega), implName s (by omega)]
  simp only [bs, if_true]
theorem FnExactNeumeContour (s : ByteArray) (_ : s.size ≤ 140737488351232) : ∃ k, laws_FnExactNeumeContour.f k s = some true := by
  refine ⟨1000, ?_⟩
  unfold laws_FnExactNeumeContour.f
  by_cases h : (s.size : Int) > 1048576
  · rw [if_pos h]
  rw [if_neg h, specCon s, implCon s (by omega)]
  unfold outF
  cases find s allL <;> simp only [bs, if_true, bne_self_eq_false, Bool.false_eq_true, if_false]
theorem xor_i64 (a b : Int) (h1 : 0 ≤ a) (h2 : a < 4611686018427387904) (h3 : 0 ≤ b) (h4 : b < 4611686018427387904) : 0 ≤ Go.bits .xor .i64 a b := by
  obtain ⟨A, rfl⟩ := Int.eq_ofNat_of_zero_le h1
  obtain ⟨B, rfl⟩ := Int.eq_ofNat_of_zero_le h3
  have hA : (BitVec.ofInt 64 (A : Int)).toNat = A := by
    rw [BitVec.ofInt_natCast, BitVec.toNat_ofNat]; exact Nat.mod_eq_of_lt (by omega)
  have hB : (BitVec.ofInt 64 (B : Int)).toNat = B := by
    rw [BitVec.ofInt_natCast, BitVec.toNat_ofNat]; exact Nat.mod_eq_of_lt (by omega)
  have hx : A ^^^ B < 2 ^ 62 := Nat.xor_lt_two_pow (by omega) (by omega)
  show 0 ≤ IntKind.i64.wrap ((BitVec.ofInt 64 (A : Int) ^^^ BitVec.ofInt 64 (B : Int)).toNat : Int)
  rw [BitVec.toNat_xor, hA, hB, i64_w]
  unfold wrap64
  omega
/-- The bytes that are read. -/
def Bytes (l : List Int) : Prop := l.length ≤ 2000 ∧ ∀ x ∈ l, 0 ≤ x ∧ x ≤ 255
theorem rd_byte {l : List Int} (h : Bytes l) (i : Int) : 0 ≤ rd l i ∧ rd l i ≤ 255 := by
  unfold rd
  rw [List.getD_eq_getElem?_getD]
  cases hx : l[i.toNat]? with
  | none => simp
  | some x => exact h.2 x (List.mem_of_getElem? hx)
theorem pick_ok (k : Nat) {l : List Int} (h : Bytes l) (p n : Int) (hp : 0 ≤ p ∧ p ≤ 1000000) (hn : 1 ≤ n ∧ n ≤ 1000000) : ∃ v, spec_l6Rd_pick.f (k + 1) l p n = some (v, p + 1) ∧ 0 ≤ v ∧ v < n := by
  obtain ⟨hlen, hb⟩ := id h
  unfold spec_l6Rd_pick.f
  rw [if_neg (by omega), w64 (by omega) (by omega)]
  simp only [spec_l6Rd_pick.j0]
  by_cases h0 : (l.length : Int) = 0
  · rw [if_pos (by simpa using h0)]
    exact ⟨0, rfl, by omega, by omega⟩
  · rw [if_neg (by simpa using h0)]
    have hL : 0 < (l.length : Int) := by omega
    rw [show p + 1 - 1 = p by omega, w64 (x := p) (by omega) (by omega)]
    have fin : ∀ x : Int, 0 ≤ x → ∃ v, some (Int.tmod x n, p + 1) = some (v, p + 1) ∧ 0 ≤ v ∧ v < n := fun x hx =>
      ⟨_, rfl, by rw [Int.tmod_eq_emod_of_nonneg hx]; exact Int.emod_nonneg _ (by omega), by rw [Int.tmod_eq_emod_of_nonneg hx]; exact Int.emod_lt_of_pos _ (by omega)⟩
    by_cases h1 : p < (l.length : Int)
    · rw [if_pos h1, if_pos hp.1, if_neg (by omega)]
      have hr := rd_byte h p
      rw [w64 (by omega) (by omega)]
      exact fin _ hr.1
    · rw [if_neg h1, if_neg h0]
      have e1 : Int.tmod p (l.length : Int) = p % (l.length : Int) := Int.tmod_eq_emod_of_nonneg hp.1
      have m0 := Int.emod_nonneg p (show (l.length : Int) ≠ 0 by omega)
      have m1 := Int.emod_lt_of_pos p hL
      have e2 : Int.tmod (wrap64 (wrap64 (p * 7) + 3)) (l.length : Int) = (p * 7 + 3) % (l.length : Int) := by
        rw [w64 (x := p * 7) (by omega) (by omega), w64 (by omega) (by omega)]
        exact Int.tmod_eq_emod_of_nonneg (by omega)
      have n0 := Int.emod_nonneg (p * 7 + 3) (show (l.length : Int) ≠ 0 by omega)
      have n1 := Int.emod_lt_of_pos (p * 7 + 3) hL
      have e3 : Int.tdiv p (l.length : Int) = p / (l.length : Int) := Int.tdiv_eq_ediv_of_nonneg hp.1
      have d0 : 0 ≤ p / (l.length : Int) := Int.ediv_nonneg hp.1 (by omega)
      have d1 : p / (l.length : Int) ≤ p := Int.ediv_le_self _ hp.1
      rw [e1, e2, e3, if_pos m0, if_pos m1, if_pos n0, if_pos n1, if_neg (by omega)]
      have r1 := rd_byte h (p % (l.length : Int))
      have r2 := rd_byte h ((p * 7 + 3) % (l.length : Int))
      generalize rd l (p % (l.length : Int)) = a at r1 ⊢
      generalize rd l ((p * 7 + 3) % (l.length : Int)) = b at r2 ⊢
      generalize p / (l.length : Int) = d at d0 d1 ⊢
      have s1 : wrap64 (wrap64 (wrap64 (wrap64 (wrap64 a * 131) + wrap64 (wrap64 b * 1117)) + wrap64 (p * 29)) + wrap64 (wrap64 d * 53)) = a * 131 + b * 1117 + p * 29 + d * 53 := by
        rw [w64 (x := a) (by omega) (by omega), w64 (x := b) (by omega) (by omega), w64 (x := d) (by omega) (by omega), w64 (x := a * 131) (by omega) (by omega), w64 (x := b * 1117) (by omega) (by omega),
          w64 (x := p * 29) (by omega) (by omega), w64 (x := d * 53) (by omega) (by omega), w64 (x := a * 131 + b * 1117) (by omega) (by omega), w64 (x := a * 131 + b * 1117 + p * 29) (by omega) (by omega), w64 (by omega) (by omega)]
      rw [s1]
      refine fin _ (xor_i64 _ _ (by omega) (by omega) ?_ ?_)
      · rw [Int.tdiv_eq_ediv_of_nonneg (by omega), w64 (by omega) (by omega)]; omega
      · rw [Int.tdiv_eq_ediv_of_nonneg (by omega), w64 (by omega) (by omega)]; omega
theorem open_ok (l : List Int) (hw : ∀ x ∈ l, (Lit.int .u8 x).wf = true) : ∃ l', spec_l6Open.f l = some (l', 0) ∧ Bytes l' := by
  have hb : ∀ x ∈ l, 0 ≤ x ∧ x ≤ 255 := fun x hx => by
    have := hw x hx
    simp only [Lit.wf, IntKind.min, IntKind.max, IntKind.signed, IntKind.bits, Bool.and_eq_true, decide_eq_true_eq, Bool.false_eq_true, if_false] at this
    omega
  unfold spec_l6Open.f
  by_cases h : (l.length : Int) > 2000
  · rw [if_pos h, if_pos (by omega)]
    exact ⟨_, rfl, by simp; omega, fun x hx => hb x (List.mem_of_mem_take hx)⟩
  · rw [if_neg h]
    exact ⟨_, rfl, by omega, hb⟩
theorem of_ok (k : Nat) {l : List Int} (h : Bytes l) (p : Int) (hp : 0 ≤ p ∧ p ≤ 1000000) (ls : List ByteArray) (hn : 1 ≤ ls.length) (hn2 : ls.length ≤ 1000000) : ∃ e, e ∈ ls ∧ spec_l6Rd_of.f (k + 1) l p ls = some (e, p + 1) := by
  obtain ⟨v, hv, h0, h1⟩ := pick_ok k h p (ls.length : Int) hp (by omega)
  unfold spec_l6Rd_of.f
  rw [hv]
  simp only [bs]
  rw [if_pos h0, if_pos h1]
  have hl : v.toNat < ls.length := by omega
  refine ⟨ls[v.toNat], List.getElem_mem hl, ?_⟩
  unfold rdOf
  rw [List.getD_eq_getElem?_getD, List.getElem?_eq_getElem hl]
  rfl
theorem contour_loop {l : List Int} (h : Bytes l) (x6 : Int) (hx : x6 ≤ 30) (d : Nat) : ∀ (k : Nat) (s : ByteArray) (x7 p : Int), x7 + d = x6 → 0 ≤ x7 → 0 ≤ p ∧ p + d ≤ 900 → s.size + d ≤ 80 →
    ∃ r q, spec_l91Contour.l0 (k + 1 + d + 1) s x6 x7 l p = some (r, q) ∧ r.size ≤ 81 ∧ 0 ≤ q ∧ q ≤ 902 := by
  induction d with
  | zero =>
    intro k s x7 p hd h0 hp hs
    simp only [spec_l91Contour.l0]
    rw [if_neg (by omega)]
    obtain ⟨v, e, h0, h1⟩ := pick_ok k h p 20 (by omega) (by omega)
    rw [show k + 1 + 0 = k + 1 by omega, e]
    simp only [bs]
    by_cases c0 : v = 0
    · rw [if_pos c0]
      obtain ⟨t, ht, e2⟩ := of_ok k h (p + 1) (by omega) [⟨#[120]⟩, ⟨#[85]⟩, ⟨#[32]⟩] (by decide) (by decide)
      rw [e2]
      simp only [bs]
      have hz : t.size = 1 := by
        simp at ht
        rcases ht with rfl | rfl | rfl <;> decide
      rw [if_pos (by omega)]
      exact ⟨_, _, rfl, by rw [ByteArray.size_append]; omega, by omega, by omega⟩
    · rw [if_neg c0]
      exact ⟨_, _, rfl, by omega, by omega, by omega⟩
  | succ d ih =>
    intro k s x7 p hd h0 hp hs
    obtain ⟨q, hq⟩ : ∃ q, k + 1 + d + 1 = q := ⟨_, rfl⟩
    rw [show k + 1 + (d + 1) + 1 = q + 1 by omega]
    simp only [spec_l91Contour.l0]
    rw [if_pos (by omega)]
    obtain ⟨t, ht, e2⟩ := of_ok (k + 1 + d) h p (by omega) [⟨#[117]⟩, ⟨#[100]⟩, ⟨#[115]⟩, ⟨#[117]⟩, ⟨#[100]⟩] (by decide) (by decide)
    rw [hq] at e2
    rw [e2]
    simp only [bs]
    have hz : t.size = 1 := by
      simp at ht
      rcases ht with rfl | rfl | rfl | rfl | rfl <;> decide
    rw [if_pos (by omega), w64 (by omega) (by omega), ← hq]
    exact ih k (s ++ t) (x7 + 1) (p + 1) (by omega) (by omega) (by omega) (by rw [ByteArray.size_append]; omega)
theorem contour_draw (k : Nat) {l : List Int} (h : Bytes l) (a : Int) (ha : 0 ≤ a ∧ a ≤ 20) : ∃ r q, spec_l91Contour.f (k + 40) l 0 a = some (r, q) ∧ r.size ≤ 81 ∧ 0 ≤ q ∧ q ≤ 902 := by
  unfold spec_l91Contour.f
  rw [w64 (by omega) (by omega)]
  obtain ⟨v, e, h0, h1⟩ := pick_ok (k + 39) h 0 (a + 1) (by omega) (by omega)
  rw [show k + 39 + 1 = k + 40 by omega] at e
  rw [e]
  simp only [bs]
  obtain ⟨d, hd⟩ : ∃ d : Nat, (d : Int) = v := ⟨v.toNat, by omega⟩
  have hb : (⟨#[]⟩ : ByteArray).size = 0 := rfl
  have := contour_loop h v (by omega) d (k + 38 - d) ⟨#[]⟩ 0 (0 + 1) (by omega) (by omega) (by omega) (by omega)
  rw [show k + 38 - d + 1 + d + 1 = k + 40 by omega] at this
  exact this
theorem rowsC : ∀ c ∈ allL, laws_FnNeumeName.j0 200 (mk c) (nameV (mk c)) (nameV (mk c)) ((nameV (mk c)).toList == ([] : List UInt8)) = some true := by decide +kernel
theorem FnNeumeName (l : List Int) (_ : l.length ≤ 9223372036854775807) (hw : ∀ x ∈ l, (Lit.int .u8 x).wf = true) : ∃ k, laws_FnNeumeName.f k l = some true := by
  refine ⟨200, ?_⟩
  unfold laws_FnNeumeName.f spec_DrawNeumeName.f
  by_cases h : (l.length : Int) > 1048576
  · rw [if_pos h]
  rw [if_neg h]
  obtain ⟨l', e, hb⟩ := open_ok l hw
  obtain ⟨s, q, e2, hs, _, _⟩ := contour_draw 160 hb 4 (by omega)
  rw [e]
  simp only [bs]
  rw [e2]
  simp only [bs]
  rw [specName s (by omega) _ (by omega), implName s (by omega)]
  simp only [bs, if_true]
  by_cases hv : cv s = true ∧ s.size ≤ 3
  · have := rowsC (L s) (all_in (L s) (cv_all s hv.1) (by rw [← L_size]; exact hv.2))
    rw [mk_eq] at this
    exact this
  · have : nameV s = ⟨#[]⟩ := by unfold nameV; rw [if_neg hv]
    rw [this, show (200 : Nat) = 199 + 1 from rfl]
    simp only [laws_FnNeumeName.j0]
    rw [if_pos (by rw [toList_L]; rfl)]
    simp
end Go.Proofs.YtnbjfkjpaaoooaaDoor.ZN
