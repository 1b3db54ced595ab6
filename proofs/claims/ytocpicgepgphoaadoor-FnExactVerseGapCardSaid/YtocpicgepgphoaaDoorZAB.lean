/- The plain laws: what the Lean functions of the walks come to. No program and no memory in sight. No condition beyond what each theorem says. -/
import Derived.Test.YtocpicgepgphoaaDoorXAx1
import Derived.Test.YtocpicgepgphoaaDoorXAx7
import Derived.Test.YtocpicgepgphoaaDoorXAx8
import Derived.Lib.IndexLaws
import Derived.Lib.IndexBytes
namespace Go.Proofs.YtocpicgepgphoaaDoor.ZA
open Go.RowKit Go.Proofs.YtocpicgepgphoaaDoor.XA Go.Proofs.YtocpicgepgphoaaDoorW.PrintWords Go.Proofs.YtocpicgepgphoaaDoorW.PrintLast
set_option linter.unusedVariables false
set_option linter.unusedSimpArgs false
theorem w64 {x : Int} (h0 : -9223372036854775808 ≤ x) (h1 : x < 9223372036854775808) : wrap64 x = x := by unfold wrap64; omega
/-- Not by rfl: so simp leaves a proof, and the kernel need not compare the two sides by running them. -/
theorem bs {α β : Type} (a : α) (f : α → Option β) : (some a).bind f = f a := by
  have h : ∀ o : Option α, o = some a → o.bind f = f a := by
    rintro _ rfl
    rfl
  exact h _ rfl
abbrev L (s : ByteArray) : List UInt8 := s.data.toList
theorem L_size (s : ByteArray) : s.size = (L s).length := Lib.size_eq s
theorem ba_ext {x y : ByteArray} (h : L x = L y) : x = y := by
  obtain ⟨⟨a⟩⟩ := x
  obtain ⟨⟨b⟩⟩ := y
  simp only [L] at h
  rw [h]
theorem L_mk (l : List UInt8) : L ⟨l.toArray⟩ = l := by simp [L]
theorem mk_L (s : ByteArray) : (⟨(L s).toArray⟩ : ByteArray) = s := ba_ext (L_mk _)
theorem bt_n (s : ByteArray) (n : Nat) (c : UInt8) (h : (L s)[n]? = some c) : bt s (n : Int) = (c.toNat : Int) := by
  have hn : n < s.size := by rw [L_size]; exact (List.getElem?_eq_some_iff.1 h).1
  unfold bt
  rw [dif_pos (by simpa using hn)]
  have e : s[((n : Int).toNat)]'(by simpa using hn) = c := by
    have h2 := (List.getElem?_eq_some_iff.1 h).2
    rw [← h2]
    rfl
  rw [e]
theorem drop_c (l : List UInt8) (n : Nat) (h : n < l.length) : ∃ c, l[n]? = some c ∧ l.drop n = c :: l.drop (n + 1) :=
  ⟨l[n], List.getElem?_eq_getElem h, List.drop_eq_getElem_cons h⟩
theorem w_succ {n : Nat} (h : n < 4611686018427387904) : wrap64 ((n : Int) + 1) = ((n + 1 : Nat) : Int) := by
  rw [w64 (by omega) (by omega)]; omega
theorem round {k d : Nat} (h : d < k) : ∃ m, k = m + 1 := ⟨k - 1, by omega⟩
theorem u8_of {c : UInt8} {k : Nat} (hk : k < 256) : ((c.toNat : Int) = (k : Int)) ↔ c = UInt8.ofNat k := by
  constructor
  · intro h
    apply UInt8.toNat_inj.1
    rw [UInt8.toNat_ofNat_of_lt' hk]
    omega
  · rintro rfl
    rw [UInt8.toNat_ofNat_of_lt' hk]
theorem toList_L (s : ByteArray) : s.toList = L s := Lib.toList_data s
theorem is_bar (c : UInt8) : ((c.toNat : Int) = 124) ↔ c = 124 := u8_of (k := 124) (by omega)
theorem is_x (c : UInt8) : ((c.toNat : Int) = 120) ↔ c = 120 := u8_of (k := 120) (by omega)
theorem is_ac (c : UInt8) : ((c.toNat : Int) = 47) ↔ c = 47 := u8_of (k := 47) (by omega)
theorem halves_loop (s : ByteArray) (hs : s.size ≤ 1100000) (d : Nat) : ∀ k n : Nat, n + d = s.size → d < k →
    spec_l4Halves.l0 k s (n : Int) = some (if Lib.indexByte ((L s).drop n) 124 = -1 then (s, ⟨#[]⟩) else (s.extract 0 (n + (Lib.indexByte ((L s).drop n) 124).toNat), s.extract (n + (Lib.indexByte ((L s).drop n) 124).toNat + 1) s.size)) := by
  induction d with
  | zero =>
    intro k n hn hk
    obtain ⟨k, rfl⟩ := round hk
    simp only [spec_l4Halves.l0]
    rw [if_neg (by omega), show (L s).drop n = [] from List.drop_eq_nil_of_le (by rw [← L_size]; omega)]
    rfl
  | succ d ih =>
    intro k n hn hk
    obtain ⟨k, rfl⟩ := round hk
    obtain ⟨c, hc, hd⟩ := drop_c (L s) n (by rw [← L_size]; omega)
    simp only [spec_l4Halves.l0]
    rw [if_pos (by omega), if_pos (by omega), bt_n s n c hc, w_succ (by omega), ih k (n + 1) (by omega) (by omega), hd]
    by_cases h : c = 124
    · subst h
      rw [if_pos (by decide), if_pos (by omega), if_pos (by omega), if_pos (by omega)]
      rw [show Lib.indexByte (124 :: (L s).drop (n + 1)) 124 = 0 from rfl, if_neg (by decide)]
      rfl
    · rw [if_neg (fun e => h ((is_bar c).1 e))]
      have e : Lib.indexByte (c :: (L s).drop (n + 1)) 124 = if Lib.indexByte ((L s).drop (n + 1)) 124 = -1 then -1 else Lib.indexByte ((L s).drop (n + 1)) 124 + 1 := by
        show (if (c == 124) = true then (0 : Int) else if (Lib.indexByte ((L s).drop (n + 1)) 124 == -1) = true then -1 else Lib.indexByte ((L s).drop (n + 1)) 124 + 1) = _
        rw [if_neg (by simpa using h)]
        simp
      rw [e]
      by_cases h2 : Lib.indexByte ((L s).drop (n + 1)) 124 = -1
      · rw [if_pos h2, if_pos h2, if_pos rfl]
      · have hge := Lib.indexByte_ge ((L s).drop (n + 1)) 124
        rw [if_neg h2, if_neg h2, if_neg (by omega)]
        have e2 : n + (Lib.indexByte ((L s).drop (n + 1)) 124 + 1).toNat = n + 1 + (Lib.indexByte ((L s).drop (n + 1)) 124).toNat := by omega
        rw [e2]
/-- What stands ahead of and behind the first bar. -/
def cutB (s : ByteArray) : ByteArray × ByteArray × Bool := (⟨(Lib.cut (L s) [124]).1.toArray⟩, ⟨(Lib.cut (L s) [124]).2.1.toArray⟩, (Lib.cut (L s) [124]).2.2)
theorem cutB_eq (s : ByteArray) : cutB s = if Lib.indexByte (L s) 124 = -1 then (s, ⟨#[]⟩, false) else (s.extract 0 (Lib.indexByte (L s) 124).toNat, s.extract ((Lib.indexByte (L s) 124).toNat + 1) s.size, true) := by
  unfold cutB Lib.cut
  rw [Lib.index_one]
  have hge := Lib.indexByte_ge (L s) 124
  by_cases h : Lib.indexByte (L s) 124 = -1
  · rw [if_neg (by omega), if_pos h, mk_L]
  · rw [if_pos (by omega), if_neg h]
    have e1 : (⟨((L s).take (Lib.indexByte (L s) 124).toNat).toArray⟩ : ByteArray) = s.extract 0 (Lib.indexByte (L s) 124).toNat := ba_ext (by rw [L_mk]; show _ = (s.extract 0 _).data.toList; rw [Lib.extract_data]; simp)
    have e2 : (⟨((L s).drop ((Lib.indexByte (L s) 124).toNat + [(124 : UInt8)].length)).toArray⟩ : ByteArray) = s.extract ((Lib.indexByte (L s) 124).toNat + 1) s.size := ba_ext (by rw [L_mk]; show _ = (s.extract _ s.size).data.toList; rw [Lib.extract_to_end]; rfl)
    rw [e1, e2]
theorem specHalves (s : ByteArray) (hs : s.size ≤ 1100000) (k : Nat) (hk : s.size < k) : spec_l4Halves.f k s = some ((cutB s).1, (cutB s).2.1) := by
  unfold spec_l4Halves.f
  have := halves_loop s hs s.size k 0 (by omega) hk
  rw [show ((0 : Nat) : Int) = 0 from rfl] at this
  rw [this, cutB_eq, List.drop_zero, Nat.zero_add]
  split <;> rfl
theorem cut_sizes (s : ByteArray) : ((cutB s).2.2 = true → (cutB s).1.size + (cutB s).2.1.size + 1 = s.size) ∧ ((cutB s).2.2 = false → (cutB s).2.1 = ⟨#[]⟩) ∧ (cutB s).1.size ≤ s.size ∧ (cutB s).2.1.size ≤ s.size := by
  rw [cutB_eq]
  have hge := Lib.indexByte_ge (L s) 124
  by_cases h : Lib.indexByte (L s) 124 = -1
  · rw [if_pos h]
    exact ⟨fun e => by simp at e, fun _ => rfl, Nat.le_refl _, Nat.zero_le _⟩
  · rw [if_neg h]
    obtain ⟨i, hi⟩ : ∃ i : Nat, Lib.indexByte (L s) 124 = i := ⟨(Lib.indexByte (L s) 124).toNat, by omega⟩
    have h2 := (Lib.indexByte_some hi).1
    have h3 := (List.getElem?_eq_some_iff.1 h2).1
    rw [← L_size] at h3
    rw [hi]
    simp only [Int.toNat_natCast, ByteArray.size_extract]
    refine ⟨fun _ => by omega, fun e => by simp at e, by omega, by omega⟩
/-- One half of a verse. -/
def hvB (b : ByteArray) : Bool := (L b).all (fun c => c == 120 || c == 47) && decide (0 < b.size)
theorem half_loop (s : ByteArray) (hs : s.size ≤ 1100000) (d : Nat) : ∀ k n : Nat, n + d = s.size → d < k →
    spec_l4Half.l0 k s (n : Int) = some (((L s).drop n).all (fun c => c == 120 || c == 47) && decide (0 < s.size)) := by
  induction d with
  | zero =>
    intro k n hn hk
    obtain ⟨k, rfl⟩ := round hk
    simp only [spec_l4Half.l0]
    rw [if_neg (by omega), show (L s).drop n = [] from List.drop_eq_nil_of_le (by rw [← L_size]; omega)]
    simp
  | succ d ih =>
    intro k n hn hk
    obtain ⟨k, rfl⟩ := round hk
    obtain ⟨c, hc, hd⟩ := drop_c (L s) n (by rw [← L_size]; omega)
    simp only [spec_l4Half.l0]
    rw [if_pos (by omega), if_pos (by omega), bt_n s n c hc, w_succ (by omega), ih k (n + 1) (by omega) (by omega), hd, List.all_cons]
    by_cases h : c = 120
    · subst h
      rw [if_pos (by decide)]
      simp
    · rw [if_neg (fun e => h ((is_x c).1 e))]
      by_cases h2 : c = 47
      · subst h2
        rw [if_pos (by decide)]
        simp
      · rw [if_neg (fun e => h2 ((is_ac c).1 e))]
        simp [h, h2]
theorem specHalf (s : ByteArray) (hs : s.size ≤ 1100000) (k : Nat) (hk : s.size < k) : spec_l4Half.f k s = some (hvB s) := by
  unfold spec_l4Half.f hvB
  have := half_loop s hs s.size k 0 (by omega) hk
  rw [show ((0 : Nat) : Int) = 0 from rfl] at this
  rw [this, List.drop_zero]
theorem dw_nil {α : Type} (p : α → Bool) : ∀ m : List α, m.dropWhile p = [] ↔ ∀ c ∈ m, p c = true
  | [] => by simp
  | a :: m => by
    rw [List.dropWhile_cons]
    by_cases h : p a = true
    · rw [if_pos h, dw_nil p m]
      simp [h]
    · rw [if_neg h]
      simp [h]
theorem dw_cons {α : Type} (p : α → Bool) : ∀ (l : List α) (a : α) (m : List α), l.dropWhile p = a :: m → p a = false
  | [], a, m, h => by simp at h
  | b :: l, a, m, h => by
    rw [List.dropWhile_cons] at h
    by_cases hb : p b = true
    · rw [if_pos hb] at h
      exact dw_cons p l a m h
    · rw [if_neg hb] at h
      injection h with h1 _
      rw [← h1]
      simpa using hb
theorem trim_nil (l cs : List UInt8) : Lib.trimS l cs = [] ↔ ∀ c ∈ l, cs.contains c = true := by
  have hr : ∀ m : List UInt8, m.dropWhile (cs.contains ·) = [] ↔ ∀ c ∈ m, cs.contains c = true := fun m => dw_nil _ m
  unfold Lib.trimS Lib.trimLeftS
  rw [hr]
  unfold Lib.trimRightS
  constructor
  · intro h
    have h1 : l.reverse.dropWhile (cs.contains ·) = [] := by
      cases hm : l.reverse.dropWhile (cs.contains ·) with
      | nil => rfl
      | cons a m =>
        have h2 : cs.contains a = false := dw_cons (cs.contains ·) l.reverse a m hm
        have := h a (by rw [hm]; simp)
        rw [h2] at this
        cases this
    intro c hc
    exact (hr l.reverse).1 h1 c (by simpa using hc)
  · intro h c hc
    have : c ∈ l.reverse.dropWhile (cs.contains ·) := by simpa using hc
    exact h c (by simpa using (List.dropWhile_sublist _).subset this)
theorem implHalf (b : ByteArray) (hs : b.size ≤ 1100000) : impl_halfValid.f b = some (hvB b) := by
  unfold impl_halfValid.f hvB strings_Trim.f
  rw [toList_L]
  by_cases h : L b = []
  · rw [if_pos h]
    have : b.size = 0 := by rw [L_size, h]; rfl
    rw [this]
    simp
  · rw [if_neg h, if_pos ⟨by omega, by decide, by decide⟩]
    simp only [Option.bind_some, toList_L, L_mk]
    have h0 : 0 < b.size := by rw [L_size]; exact List.length_pos_iff.2 h
    rw [decide_eq_true h0, Bool.and_true]
    congr 1
    rw [Bool.eq_iff_iff, beq_iff_eq, trim_nil, List.all_eq_true]
    constructor
    · intro g c hc
      have := g c hc
      simpa using this
    · intro g c hc
      have := g c hc
      simpa using this
/-- A text is a verse. -/
def vv (s : ByteArray) : Bool := (cutB s).2.2 && (decide ((cutB s).1.size + (cutB s).2.1.size ≤ 20) && (hvB (cutB s).1 && hvB (cutB s).2.1))
theorem implHalves (s : ByteArray) (hs : s.size ≤ 1100000) : impl_VerseHalves.f s = some (if vv s = true then ((cutB s).1, (cutB s).2.1, true) else (⟨#[]⟩, ⟨#[]⟩, false)) := by
  have hz := cut_sizes s
  unfold impl_VerseHalves.f strings_Cut.f vv
  rw [if_pos (by omega)]
  show (some (cutB s)).bind _ = _
  simp only [Option.bind_some]
  rw [implHalf _ (by omega), implHalf _ (by omega), w64 (by omega) (by omega)]
  cases (cutB s).2.2 with
  | false => simp
  | true =>
    rw [if_pos rfl]
    by_cases h : (cutB s).1.size + (cutB s).2.1.size ≤ 20
    · rw [if_neg (by omega), decide_eq_true h]
      cases hvB (cutB s).1 <;> cases hvB (cutB s).2.1 <;> simp
    · rw [if_pos (by omega), decide_eq_false h]
      simp
theorem specValidV (s : ByteArray) (hs : s.size ≤ 1100000) (k : Nat) (hk : s.size < k) : spec_VerseValid.f k s = some (vv s) := by
  have hz := cut_sizes s
  unfold spec_VerseValid.f vv
  rw [specHalves s hs k hk]
  simp only [Option.bind_some]
  rw [specHalf _ (by omega) _ (by omega), specHalf _ (by omega) _ (by omega), w64 (by omega) (by omega)]
  cases hc : (cutB s).2.2 with
  | false =>
    rw [hz.2.1 hc]
    have : hvB ⟨#[]⟩ = false := by decide
    rw [this]
    cases hvB (cutB s).1 <;> simp
  | true =>
    cases hvB (cutB s).1 <;> cases hvB (cutB s).2.1 <;> simp
    omega
theorem vv_cut (s : ByteArray) (h : vv s = true) : (cutB s).2.2 = true := by
  unfold vv at h
  generalize (cutB s).2.2 = a at h ⊢
  cases a with
  | false => simp at h
  | true => rfl
/-- The greatest number of x in a row: 'now' have been counted, 'most' is the greatest so far. -/
def runs : List UInt8 → Int → Int → Int
  | [], _, most => most
  | c :: l, now, most => if c = 120 then runs l (now + 1) (max most (now + 1)) else runs l 0 (max most 0)
theorem mx_max (a b : Int) : mx a b = max a b := by unfold mx; omega
theorem implRun_loop (s : ByteArray) (hs : s.size ≤ 1100000) (d : Nat) : ∀ (k n : Nat) (most now : Int), n + d = s.size → d < k → 0 ≤ now → now ≤ n →
    impl_longestWeak.l0 k s most now (s.size : Int) (n : Int) = some (runs ((L s).drop n) now most) := by
  induction d with
  | zero =>
    intro k n most now hn hk h0 h1
    obtain ⟨k, rfl⟩ := round hk
    simp only [impl_longestWeak.l0]
    rw [if_neg (by omega), show (L s).drop n = [] from List.drop_eq_nil_of_le (by rw [← L_size]; omega)]
    rfl
  | succ d ih =>
    intro k n most now hn hk h0 h1
    obtain ⟨k, rfl⟩ := round hk
    obtain ⟨c, hc, hd⟩ := drop_c (L s) n (by rw [← L_size]; omega)
    simp only [impl_longestWeak.l0]
    rw [if_pos (by omega), if_pos (by omega), if_pos (by omega), bt_n s n c hc, w_succ (by omega), hd]
    have hw : wrap64 (now + 1) = now + 1 := w64 (by omega) (by omega)
    rw [hw, mx_max, mx_max]
    simp only [runs]
    by_cases h : c = 120
    · rw [if_pos ((is_x c).2 h), if_pos h, ih k (n + 1) _ _ (by omega) (by omega) (by omega) (by omega)]
    · rw [if_neg (fun e => h ((is_x c).1 e)), if_neg h, ih k (n + 1) _ _ (by omega) (by omega) (by omega) (by omega)]
theorem implRun (s : ByteArray) (hs : s.size ≤ 1100000) (k : Nat) (hk : s.size < k) : impl_longestWeak.f k s = some (runs (L s) 0 0) := by
  unfold impl_longestWeak.f
  have := implRun_loop s hs s.size k 0 0 0 (by omega) hk (by omega) (by omega)
  rw [show ((0 : Nat) : Int) = 0 from rfl] at this
  rw [this, List.drop_zero]
theorem specRun_loop (s : ByteArray) (hs : s.size ≤ 1100000) (d : Nat) : ∀ (k n : Nat) (most now : Int), n + d = s.size → d < k → 0 ≤ now → now ≤ n →
    spec_VerseGap.l0 k s most now (n : Int) = some (runs ((L s).drop n) now most) := by
  induction d with
  | zero =>
    intro k n most now hn hk h0 h1
    obtain ⟨k, rfl⟩ := round hk
    simp only [spec_VerseGap.l0]
    rw [if_neg (by omega), show (L s).drop n = [] from List.drop_eq_nil_of_le (by rw [← L_size]; omega)]
    rfl
  | succ d ih =>
    intro k n most now hn hk h0 h1
    obtain ⟨k, rfl⟩ := round hk
    obtain ⟨c, hc, hd⟩ := drop_c (L s) n (by rw [← L_size]; omega)
    simp only [spec_VerseGap.l0]
    rw [if_pos (by omega), if_pos (by omega), bt_n s n c hc, w_succ (by omega), hd]
    have hw : wrap64 (now + 1) = now + 1 := w64 (by omega) (by omega)
    rw [hw, mx_max, mx_max]
    simp only [runs]
    by_cases h : c = 120
    · rw [if_pos ((is_x c).2 h), if_pos h, ih k (n + 1) _ _ (by omega) (by omega) (by omega) (by omega)]
    · rw [if_neg (fun e => h ((is_x c).1 e)), if_neg h, ih k (n + 1) _ _ (by omega) (by omega) (by omega) (by omega)]
theorem runs_most (l : List UInt8) : ∀ (now most : Int), 0 ≤ most → runs l now most = max most (runs l now 0) := by
  induction l with
  | nil => intro now most h; simp only [runs]; omega
  | cons c l ih =>
    intro now most h
    simp only [runs]
    by_cases hc : c = 120
    · rw [if_pos hc, if_pos hc, ih _ (max most (now + 1)) (by omega), ih _ (max 0 (now + 1)) (by omega)]
      omega
    · rw [if_neg hc, if_neg hc, ih _ (max most 0) (by omega), ih _ (max 0 0) (by omega)]
      omega
theorem runs_append (l m : List UInt8) (c : UInt8) (hc : c ≠ 120) : ∀ (now most : Int), 0 ≤ most → runs (l ++ c :: m) now most = max (runs l now most) (runs m 0 0) := by
  induction l with
  | nil =>
    intro now most h
    simp only [List.nil_append, runs]
    rw [if_neg hc, runs_most _ _ _ (by omega)]
    omega
  | cons a l ih =>
    intro now most h
    simp only [List.cons_append, runs]
    split
    · exact ih _ _ (by omega)
    · exact ih _ _ (by omega)
theorem cut_join (s : ByteArray) (h : (cutB s).2.2 = true) : L s = L (cutB s).1 ++ 124 :: L (cutB s).2.1 := by
  rw [cutB_eq] at h ⊢
  have hge := Lib.indexByte_ge (L s) 124
  by_cases hi : Lib.indexByte (L s) 124 = -1
  · rw [if_pos hi] at h
    cases h
  · rw [if_neg hi]
    obtain ⟨i, he⟩ : ∃ i : Nat, Lib.indexByte (L s) 124 = i := ⟨(Lib.indexByte (L s) 124).toNat, by omega⟩
    obtain ⟨h2, _⟩ := Lib.indexByte_some he
    obtain ⟨h3, h4⟩ := List.getElem?_eq_some_iff.1 h2
    rw [he]
    simp only [Int.toNat_natCast]
    have e1 : L (s.extract 0 i) = (L s).take i := by
      show (s.extract 0 i).data.toList = _
      rw [Lib.extract_data]; simp
    have e2 : L (s.extract (i + 1) s.size) = (L s).drop (i + 1) := Lib.extract_to_end s (i + 1)
    rw [e1, e2, ← h4, ← List.drop_eq_getElem_cons h3, List.take_append_drop]
/-- The greatest number of weak syllables in one half. -/
def gapV (s : ByteArray) : Int := if vv s = true then max (runs (L (cutB s).1) 0 0) (runs (L (cutB s).2.1) 0 0) else -1
theorem implGap (s : ByteArray) (hs : s.size ≤ 1100000) (k : Nat) (hk : s.size < k) : impl_VerseGap.f k s = some (gapV s) := by
  have hz := cut_sizes s
  unfold impl_VerseGap.f gapV
  rw [implHalves s hs]
  simp only [bs]
  by_cases hv : vv s = true
  · rw [if_pos hv, if_pos hv]
    simp only [if_true]
    rw [implRun _ (by omega) _ (by omega), implRun _ (by omega) _ (by omega)]
    simp only [bs, mx_max]
  · rw [if_neg hv, if_neg hv]
    simp only [Bool.false_eq_true, if_false]
theorem specGap (s : ByteArray) (hs : s.size ≤ 1100000) (k : Nat) (hk : s.size < k) : spec_VerseGap.f k s = some (gapV s) := by
  unfold spec_VerseGap.f gapV
  rw [specValidV s hs k hk]
  simp only [bs]
  by_cases hv : vv s = true
  · rw [if_pos hv, if_pos hv]
    have := specRun_loop s hs s.size k 0 0 0 (by omega) hk (by omega) (by omega)
    rw [show ((0 : Nat) : Int) = 0 from rfl] at this
    have hc := vv_cut s hv
    rw [this, List.drop_zero, cut_join s hc, runs_append _ _ _ (by decide) _ _ (by omega)]
  · rw [if_neg hv, if_neg hv]
theorem FnExactVerseGap (s : ByteArray) (_ : s.size ≤ 140737488351232) : ∃ k, laws_FnExactVerseGap.f k s = some true := by
  refine ⟨s.size + 1, ?_⟩
  unfold laws_FnExactVerseGap.f
  by_cases h : (s.size : Int) > 1048576
  · rw [if_pos h]
  rw [if_neg h, specGap s (by omega) _ (by omega), implGap s (by omega) _ (by omega)]
  simp only [bs, if_true]
/-- The number of x at the end. -/
def tailX : List UInt8 → Int
  | [] => 0
  | c :: l => if l.all (fun b => b == 120) = true then (if c = 120 then (l.length : Int) + 1 else l.length) else tailX l
end Go.Proofs.YtocpicgepgphoaaDoor.ZA
