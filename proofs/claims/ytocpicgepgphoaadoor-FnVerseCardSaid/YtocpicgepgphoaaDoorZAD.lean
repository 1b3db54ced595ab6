/- The plain laws: what the Lean functions of the walks come to. No program and no memory in sight. No condition beyond what each theorem says. -/
import Derived.Test.YtocpicgepgphoaaDoorXAx1
import Derived.Test.YtocpicgepgphoaaDoorXAx5
import Derived.Test.YtocpicgepgphoaaDoorXAx13
import Derived.Test.YtocpicgepgphoaaDoorXAx14
import Derived.Lib.IndexLaws
import Derived.Lib.IndexBytes
namespace Go.Proofs.YtocpicgepgphoaaDoor.ZA
open Go.RowKit Go.Proofs.YtocpicgepgphoaaDoor.XA Go.Proofs.YtocpicgepgphoaaDoorW.PrintWords Go.Proofs.YtocpicgepgphoaaDoorW.PrintLast
set_option linter.unusedVariables false
set_option linter.unusedSimpArgs false
theorem w64 {x : Int} (h0 : -9223372036854775808 ≤ x) (h1 : x < 9223372036854775808) : wrap64 x = x := by unfold wrap64; omega
/-- Not by rfl: so simp leaves a proof, and the kernel need not compare the two sides by running them. -/
theorem bs {α β : Type} (a : α) (f : α → Option β) : (some a).bind f = f a := by
  have h : ∀ o : Option α, o = some a → o.bind f = f a := by
    rintro _ rfl
    rfl
  exact h _ rfl
abbrev L (s : ByteArray) : List UInt8 := s.data.toList
theorem L_size (s : ByteArray) : s.size = (L s).length := Lib.size_eq s
theorem ba_ext {x y : ByteArray} (h : L x = L y) : x = y := by
  obtain ⟨⟨a⟩⟩ := x
  obtain ⟨⟨b⟩⟩ := y
  simp only [L] at h
  rw [h]
theorem L_mk (l : List UInt8) : L ⟨l.toArray⟩ = l := by simp [L]
theorem mk_L (s : ByteArray) : (⟨(L s).toArray⟩ : ByteArray) = s := ba_ext (L_mk _)
theorem bt_n (s : ByteArray) (n : Nat) (c : UInt8) (h : (L s)[n]? = some c) : bt s (n : Int) = (c.toNat : Int) := by
  have hn : n < s.size := by rw [L_size]; exact (List.getElem?_eq_some_iff.1 h).1
  unfold bt
  rw [dif_pos (by simpa using hn)]
  have e : s[((n : Int).toNat)]'(by simpa using hn) = c := by
    have h2 := (List.getElem?_eq_some_iff.1 h).2
    rw [← h2]
    rfl
  rw [e]
theorem drop_c (l : List UInt8) (n : Nat) (h : n < l.length) : ∃ c, l[n]? = some c ∧ l.drop n = c :: l.drop (n + 1) :=
  ⟨l[n], List.getElem?_eq_getElem h, List.drop_eq_getElem_cons h⟩
theorem w_succ {n : Nat} (h : n < 4611686018427387904) : wrap64 ((n : Int) + 1) = ((n + 1 : Nat) : Int) := by
  rw [w64 (by omega) (by omega)]; omega
theorem round {k d : Nat} (h : d < k) : ∃ m, k = m + 1 := ⟨k - 1, by omega⟩
theorem u8_of {c : UInt8} {k : Nat} (hk : k < 256) : ((c.toNat : Int) = (k : Int)) ↔ c = UInt8.ofNat k := by
  constructor
  · intro h
    apply UInt8.toNat_inj.1
    rw [UInt8.toNat_ofNat_of_lt' hk]
    omega
  · rintro rfl
    rw [UInt8.toNat_ofNat_of_lt' hk]
theorem toList_L (s : ByteArray) : s.toList = L s := Lib.toList_data s
theorem is_bar (c : UInt8) : ((c.toNat : Int) = 124) ↔ c = 124 := u8_of (k := 124) (by omega)
theorem is_x (c : UInt8) : ((c.toNat : Int) = 120) ↔ c = 120 := u8_of (k := 120) (by omega)
theorem is_ac (c : UInt8) : ((c.toNat : Int) = 47) ↔ c = 47 := u8_of (k := 47) (by omega)
theorem halves_loop (s : ByteArray) (hs : s.size ≤ 1100000) (d : Nat) : ∀ k n : Nat, n + d = s.size → d < k →
    spec_l4Halves.l0 k s (n : Int) = some (if Lib.indexByte ((L s).drop n) 124 = -1 then (s, ⟨#[]⟩) else (s.extract 0 (n + (Lib.indexByte ((L s).drop n) 124).toNat), s.extract (n + (Lib.indexByte ((L s).drop n) 124).toNat + 1) s.size)) := by
  induction d with
  | zero =>
    intro k n hn hk
    obtain ⟨k, rfl⟩ := round hk
    simp only [spec_l4Halves.l0]
    rw [if_neg (by omega), show (L s).drop n = [] from List.drop_eq_nil_of_le (by rw [← L_size]; omega)]
    rfl
  | succ d ih =>
    intro k n hn hk
    obtain ⟨k, rfl⟩ := round hk
    obtain ⟨c, hc, hd⟩ := drop_c (L s) n (by rw [← L_size]; omega)
    simp only [spec_l4Halves.l0]
    rw [if_pos (by omega), if_pos (by omega), bt_n s n c hc, w_succ (by omega), ih k (n + 1) (by omega) (by omega), hd]
    by_cases h : c = 124
    · subst h
      rw [if_pos (by decide), if_pos (by omega), if_pos (by omega), if_pos (by omega)]
      rw [show Lib.indexByte (124 :: (L s).drop (n + 1)) 124 = 0 from rfl, if_neg (by decide)]
      rfl
    · rw [if_neg (fun e => h ((is_bar c).1 e))]
      have e : Lib.indexByte (c :: (L s).drop (n + 1)) 124 = if Lib.indexByte ((L s).drop (n + 1)) 124 = -1 then -1 else Lib.indexByte ((L s).drop (n + 1)) 124 + 1 := by
        show (if (c == 124) = true then (0 : Int) else if (Lib.indexByte ((L s).drop (n + 1)) 124 == -1) = true then -1 else Lib.indexByte ((L s).drop (n + 1)) 124 + 1) = _
        rw [if_neg (by simpa using h)]
        simp
      rw [e]
      by_cases h2 : Lib.indexByte ((L s).drop (n + 1)) 124 = -1
      · rw [if_pos h2, if_pos h2, if_pos rfl]
      · have hge := Lib.indexByte_ge ((L s).drop (n + 1)) 124
        rw [if_neg h2, if_neg h2, if_neg (by omega)]
        have e2 : n + (Lib.indexByte ((L s).drop (n + 1)) 124 + 1).toNat = n + 1 + (Lib.indexByte ((L s).drop (n + 1)) 124).toNat := by omega
        rw [e2]
/-- What stands ahead of and behind the first bar. -/
def cutB (s : ByteArray) : ByteArray × ByteArray × Bool := (⟨(Lib.cut (L s) [124]).1.toArray⟩, ⟨(Lib.cut (L s) [124]).2.1.toArray⟩, (Lib.cut (L s) [124]).2.2)
theorem cutB_eq (s : ByteArray) : cutB s = if Lib.indexByte (L s) 124 = -1 then (s, ⟨#[]⟩, false) else (s.extract 0 (Lib.indexByte (L s) 124).toNat, s.extract ((Lib.indexByte (L s) 124).toNat + 1) s.size, true) := by
  unfold cutB Lib.cut
  rw [Lib.index_one]
  have hge := Lib.indexByte_ge (L s) 124
  by_cases h : Lib.indexByte (L s) 124 = -1
  · rw [if_neg (by omega), if_pos h, mk_L]
  · rw [if_pos (by omega), if_neg h]
    have e1 : (⟨((L s).take (Lib.indexByte (L s) 124).toNat).toArray⟩ : ByteArray) = s.extract 0 (Lib.indexByte (L s) 124).toNat := ba_ext (by rw [L_mk]; show _ = (s.extract 0 _).data.toList; rw [Lib.extract_data]; simp)
    have e2 : (⟨((L s).drop ((Lib.indexByte (L s) 124).toNat + [(124 : UInt8)].length)).toArray⟩ : ByteArray) = s.extract ((Lib.indexByte (L s) 124).toNat + 1) s.size := ba_ext (by rw [L_mk]; show _ = (s.extract _ s.size).data.toList; rw [Lib.extract_to_end]; rfl)
    rw [e1, e2]
theorem specHalves (s : ByteArray) (hs : s.size ≤ 1100000) (k : Nat) (hk : s.size < k) : spec_l4Halves.f k s = some ((cutB s).1, (cutB s).2.1) := by
  unfold spec_l4Halves.f
  have := halves_loop s hs s.size k 0 (by omega) hk
  rw [show ((0 : Nat) : Int) = 0 from rfl] at this
  rw [this, cutB_eq, List.drop_zero, Nat.zero_add]
  split <;> rfl
theorem cut_sizes (s : ByteArray) : ((cutB s).2.2 = true → (cutB s).1.size + (cutB s).2.1.size + 1 = s.size) ∧ ((cutB s).2.2 = false → (cutB s).2.1 = ⟨#[]⟩) ∧ (cutB s).1.size ≤ s.size ∧ (cutB s).2.1.size ≤ s.size := by
  rw [cutB_eq]
  have hge := Lib.indexByte_ge (L s) 124
  by_cases h : Lib.indexByte (L s) 124 = -1
  · rw [if_pos h]
    exact ⟨fun e => by simp at e, fun _ => rfl, Nat.le_refl _, Nat.zero_le _⟩
  · rw [if_neg h]
    obtain ⟨i, hi⟩ : ∃ i : Nat, Lib.indexByte (L s) 124 = i := ⟨(Lib.indexByte (L s) 124).toNat, by omega⟩
    have h2 := (Lib.indexByte_some hi).1
    have h3 := (List.getElem?_eq_some_iff.1 h2).1
    rw [← L_size] at h3
    rw [hi]
    simp only [Int.toNat_natCast, ByteArray.size_extract]
    refine ⟨fun _ => by omega, fun e => by simp at e, by omega, by omega⟩
/-- One half of a verse. -/
def hvB (b : ByteArray) : Bool := (L b).all (fun c => c == 120 || c == 47) && decide (0 < b.size)
theorem half_loop (s : ByteArray) (hs : s.size ≤ 1100000) (d : Nat) : ∀ k n : Nat, n + d = s.size → d < k →
    spec_l4Half.l0 k s (n : Int) = some (((L s).drop n).all (fun c => c == 120 || c == 47) && decide (0 < s.size)) := by
  induction d with
  | zero =>
    intro k n hn hk
    obtain ⟨k, rfl⟩ := round hk
    simp only [spec_l4Half.l0]
    rw [if_neg (by omega), show (L s).drop n = [] from List.drop_eq_nil_of_le (by rw [← L_size]; omega)]
    simp
  | succ d ih =>
    intro k n hn hk
    obtain ⟨k, rfl⟩ := round hk
    obtain ⟨c, hc, hd⟩ := drop_c (L s) n (by rw [← L_size]; omega)
    simp only [spec_l4Half.l0]
    rw [if_pos (by omega), if_pos (by omega), bt_n s n c hc, w_succ (by omega), ih k (n + 1) (by omega) (by omega), hd, List.all_cons]
    by_cases h : c = 120
    · subst h
      rw [if_pos (by decide)]
      simp
    · rw [if_neg (fun e => h ((is_x c).1 e))]
      by_cases h2 : c = 47
      · subst h2
        rw [if_pos (by decide)]
        simp
      · rw [if_neg (fun e => h2 ((is_ac c).1 e))]
        simp [h, h2]
theorem specHalf (s : ByteArray) (hs : s.size ≤ 1100000) (k : Nat) (hk : s.size < k) : spec_l4Half.f k s = some (hvB s) := by
  unfold spec_l4Half.f hvB
  have := half_loop s hs s.size k 0 (by omega) hk
  rw [show ((0 : Nat) : Int) = 0 from rfl] at this
  rw [this, List.drop_zero]
theorem dw_nil {α : Type} (p : α → Bool) : ∀ m : List α, m.dropWhile p = [] ↔ ∀ c ∈ m, p c = true
  | [] => by simp
  | a :: m => by
    rw [List.dropWhile_cons]
    by_cases h : p a = true
    · rw [if_pos h, dw_nil p m]
      simp [h]
    · rw [if_neg h]
      simp [h]
theorem dw_cons {α : Type} (p : α → Bool) : ∀ (l : List α) (a : α) (m : List α), l.dropWhile p = a :: m → p a = false
  | [], a, m, h => by simp at h
  | b :: l, a, m, h => by
    rw [List.dropWhile_cons] at h
    by_cases hb : p b = true
    · rw [if_pos hb] at h
      exact dw_cons p l a m h
    · rw [if_neg hb] at h
      injection h with h1 _
      rw [← h1]
      simpa using hb
theorem trim_nil (l cs : List UInt8) : Lib.trimS l cs = [] ↔ ∀ c ∈ l, cs.contains c = true := by
  have hr : ∀ m : List UInt8, m.dropWhile (cs.contains ·) = [] ↔ ∀ c ∈ m, cs.contains c = true := fun m => dw_nil _ m
  unfold Lib.trimS Lib.trimLeftS
  rw [hr]
  unfold Lib.trimRightS
  constructor
  · intro h
    have h1 : l.reverse.dropWhile (cs.contains ·) = [] := by
      cases hm : l.reverse.dropWhile (cs.contains ·) with
      | nil => rfl
      | cons a m =>
        have h2 : cs.contains a = false := dw_cons (cs.contains ·) l.reverse a m hm
        have := h a (by rw [hm]; simp)
        rw [h2] at this
        cases this
    intro c hc
    exact (hr l.reverse).1 h1 c (by simpa using hc)
  · intro h c hc
    have : c ∈ l.reverse.dropWhile (cs.contains ·) := by simpa using hc
    exact h c (by simpa using (List.dropWhile_sublist _).subset this)
theorem implHalf (b : ByteArray) (hs : b.size ≤ 1100000) : impl_halfValid.f b = some (hvB b) := by
  unfold impl_halfValid.f hvB strings_Trim.f
  rw [toList_L]
  by_cases h : L b = []
  · rw [if_pos h]
    have : b.size = 0 := by rw [L_size, h]; rfl
    rw [this]
    simp
  · rw [if_neg h, if_pos ⟨by omega, by decide, by decide⟩]
    simp only [Option.bind_some, toList_L, L_mk]
    have h0 : 0 < b.size := by rw [L_size]; exact List.length_pos_iff.2 h
    rw [decide_eq_true h0, Bool.and_true]
    congr 1
    rw [Bool.eq_iff_iff, beq_iff_eq, trim_nil, List.all_eq_true]
    constructor
    · intro g c hc
      have := g c hc
      simpa using this
    · intro g c hc
      have := g c hc
      simpa using this
/-- A text is a verse. -/
def vv (s : ByteArray) : Bool := (cutB s).2.2 && (decide ((cutB s).1.size + (cutB s).2.1.size ≤ 20) && (hvB (cutB s).1 && hvB (cutB s).2.1))
theorem implHalves (s : ByteArray) (hs : s.size ≤ 1100000) : impl_VerseHalves.f s = some (if vv s = true then ((cutB s).1, (cutB s).2.1, true) else (⟨#[]⟩, ⟨#[]⟩, false)) := by
  have hz := cut_sizes s
  unfold impl_VerseHalves.f strings_Cut.f vv
  rw [if_pos (by omega)]
  show (some (cutB s)).bind _ = _
  simp only [Option.bind_some]
  rw [implHalf _ (by omega), implHalf _ (by omega), w64 (by omega) (by omega)]
  cases (cutB s).2.2 with
  | false => simp
  | true =>
    rw [if_pos rfl]
    by_cases h : (cutB s).1.size + (cutB s).2.1.size ≤ 20
    · rw [if_neg (by omega), decide_eq_true h]
      cases hvB (cutB s).1 <;> cases hvB (cutB s).2.1 <;> simp
    · rw [if_pos (by omega), decide_eq_false h]
      simp
theorem specValidV (s : ByteArray) (hs : s.size ≤ 1100000) (k : Nat) (hk : s.size < k) : spec_VerseValid.f k s = some (vv s) := by
  have hz := cut_sizes s
  unfold spec_VerseValid.f vv
  rw [specHalves s hs k hk]
  simp only [Option.bind_some]
  rw [specHalf _ (by omega) _ (by omega), specHalf _ (by omega) _ (by omega), w64 (by omega) (by omega)]
  cases hc : (cutB s).2.2 with
  | false =>
    rw [hz.2.1 hc]
    have : hvB ⟨#[]⟩ = false := by decide
    rw [this]
    cases hvB (cutB s).1 <;> simp
  | true =>
    cases hvB (cutB s).1 <;> cases hvB (cutB s).2.1 <;> simp
    omega
theorem vv_cut (s : ByteArray) (h : vv s = true) : (cutB s).2.2 = true := by
  unfold vv at h
  generalize (cutB s).2.2 = a at h ⊢
  cases a with
  | false => simp at h
  | true => rfl
theorem cut_join (s : ByteArray) (h : (cutB s).2.2 = true) : L s = L (cutB s).1 ++ 124 :: L (cutB s).2.1 := by
  rw [cutB_eq] at h ⊢
  have hge := Lib.indexByte_ge (L s) 124
  by_cases hi : Lib.indexByte (L s) 124 = -1
  · rw [if_pos hi] at h
    cases h
  · rw [if_neg hi]
    obtain ⟨i, he⟩ : ∃ i : Nat, Lib.indexByte (L s) 124 = i := ⟨(Lib.indexByte (L s) 124).toNat, by omega⟩
    obtain ⟨h2, _⟩ := Lib.indexByte_some he
    obtain ⟨h3, h4⟩ := List.getElem?_eq_some_iff.1 h2
    rw [he]
    simp only [Int.toNat_natCast]
    have e1 : L (s.extract 0 i) = (L s).take i := by
      show (s.extract 0 i).data.toList = _
      rw [Lib.extract_data]; simp
    have e2 : L (s.extract (i + 1) s.size) = (L s).drop (i + 1) := Lib.extract_to_end s (i + 1)
    rw [e1, e2, ← h4, ← List.drop_eq_getElem_cons h3, List.take_append_drop]
theorem xor_i64 (a b : Int) (h1 : 0 ≤ a) (h2 : a < 4611686018427387904) (h3 : 0 ≤ b) (h4 : b < 4611686018427387904) : 0 ≤ Go.bits .xor .i64 a b := by
  obtain ⟨A, rfl⟩ := Int.eq_ofNat_of_zero_le h1
  obtain ⟨B, rfl⟩ := Int.eq_ofNat_of_zero_le h3
  have hA : (BitVec.ofInt 64 (A : Int)).toNat = A := by
    rw [BitVec.ofInt_natCast, BitVec.toNat_ofNat]; exact Nat.mod_eq_of_lt (by omega)
  have hB : (BitVec.ofInt 64 (B : Int)).toNat = B := by
    rw [BitVec.ofInt_natCast, BitVec.toNat_ofNat]; exact Nat.mod_eq_of_lt (by omega)
  have hx : A ^^^ B < 2 ^ 62 := Nat.xor_lt_two_pow (by omega) (by omega)
  show 0 ≤ IntKind.i64.wrap ((BitVec.ofInt 64 (A : Int) ^^^ BitVec.ofInt 64 (B : Int)).toNat : Int)
  rw [BitVec.toNat_xor, hA, hB, i64_w]
  unfold wrap64
  omega
/-- The bytes that are read. -/
def Bytes (l : List Int) : Prop := l.length ≤ 2000 ∧ ∀ x ∈ l, 0 ≤ x ∧ x ≤ 255
theorem rd_byte {l : List Int} (h : Bytes l) (i : Int) : 0 ≤ rd l i ∧ rd l i ≤ 255 := by
  unfold rd
  rw [List.getD_eq_getElem?_getD]
  cases hx : l[i.toNat]? with
  | none => simp
  | some x => exact h.2 x (List.mem_of_getElem? hx)
theorem pick_ok (k : Nat) {l : List Int} (h : Bytes l) (p n : Int) (hp : 0 ≤ p ∧ p ≤ 1000000) (hn : 1 ≤ n ∧ n ≤ 1000000) : ∃ v, spec_l6Rd_pick.f (k + 1) l p n = some (v, p + 1) ∧ 0 ≤ v ∧ v < n := by
  obtain ⟨hlen, hb⟩ := id h
  unfold spec_l6Rd_pick.f
  rw [if_neg (by omega), w64 (by omega) (by omega)]
  simp only [spec_l6Rd_pick.j0]
  by_cases h0 : (l.length : Int) = 0
  · rw [if_pos (by simpa using h0)]
    exact ⟨0, rfl, by omega, by omega⟩
  · rw [if_neg (by simpa using h0)]
    have hL : 0 < (l.length : Int) := by omega
    rw [show p + 1 - 1 = p by omega, w64 (x := p) (by omega) (by omega)]
    have fin : ∀ x : Int, 0 ≤ x → ∃ v, some (Int.tmod x n, p + 1) = some (v, p + 1) ∧ 0 ≤ v ∧ v < n := fun x hx =>
      ⟨_, rfl, by rw [Int.tmod_eq_emod_of_nonneg hx]; exact Int.emod_nonneg _ (by omega), by rw [Int.tmod_eq_emod_of_nonneg hx]; exact Int.emod_lt_of_pos _ (by omega)⟩
    by_cases h1 : p < (l.length : Int)
    · rw [if_pos h1, if_pos hp.1, if_neg (by omega)]
      have hr := rd_byte h p
      rw [w64 (by omega) (by omega)]
      exact fin _ hr.1
    · rw [if_neg h1, if_neg h0]
      have e1 : Int.tmod p (l.length : Int) = p % (l.length : Int) := Int.tmod_eq_emod_of_nonneg hp.1
      have m0 := Int.emod_nonneg p (show (l.length : Int) ≠ 0 by omega)
      have m1 := Int.emod_lt_of_pos p hL
      have e2 : Int.tmod (wrap64 (wrap64 (p * 7) + 3)) (l.length : Int) = (p * 7 + 3) % (l.length : Int) := by
        rw [w64 (x := p * 7) (by omega) (by omega), w64 (by omega) (by omega)]
        exact Int.tmod_eq_emod_of_nonneg (by omega)
      have n0 := Int.emod_nonneg (p * 7 + 3) (show (l.length : Int) ≠ 0 by omega)
      have n1 := Int.emod_lt_of_pos (p * 7 + 3) hL
      have e3 : Int.tdiv p (l.length : Int) = p / (l.length : Int) := Int.tdiv_eq_ediv_of_nonneg hp.1
      have d0 : 0 ≤ p / (l.length : Int) := Int.ediv_nonneg hp.1 (by omega)
      have d1 : p / (l.length : Int) ≤ p := Int.ediv_le_self _ hp.1
      rw [e1, e2, e3, if_pos m0, if_pos m1, if_pos n0, if_pos n1, if_neg (by omega)]
      have r1 := rd_byte h (p % (l.length : Int))
      have r2 := rd_byte h ((p * 7 + 3) % (l.length : Int))
      generalize rd l (p % (l.length : Int)) = a at r1 ⊢
      generalize rd l ((p * 7 + 3) % (l.length : Int)) = b at r2 ⊢
      generalize p / (l.length : Int) = d at d0 d1 ⊢
      have s1 : wrap64 (wrap64 (wrap64 (wrap64 (wrap64 a * 131) + wrap64 (wrap64 b * 1117)) + wrap64 (p * 29)) + wrap64 (wrap64 d * 53)) = a * 131 + b * 1117 + p * 29 + d * 53 := by
        rw [w64 (x := a) (by omega) (by omega), w64 (x := b) (by omega) (by omega), w64 (x := d) (by omega) (by omega), w64 (x := a * 131) (by omega) (by omega), w64 (x := b * 1117) (by omega) (by omega),
          w64 (x := p * 29) (by omega) (by omega), w64 (x := d * 53) (by omega) (by omega), w64 (x := a * 131 + b * 1117) (by omega) (by omega), w64 (x := a * 131 + b * 1117 + p * 29) (by omega) (by omega), w64 (by omega) (by omega)]
      rw [s1]
      refine fin _ (xor_i64 _ _ (by omega) (by omega) ?_ ?_)
      · rw [Int.tdiv_eq_ediv_of_nonneg (by omega), w64 (by omega) (by omega)]; omega
      · rw [Int.tdiv_eq_ediv_of_nonneg (by omega), w64 (by omega) (by omega)]; omega
theorem open_ok (l : List Int) (hw : ∀ x ∈ l, (Lit.int .u8 x).wf = true) : ∃ l', spec_l6Open.f l = some (l', 0) ∧ Bytes l' := by
  have hb : ∀ x ∈ l, 0 ≤ x ∧ x ≤ 255 := fun x hx => by
    have := hw x hx
    simp only [Lit.wf, IntKind.min, IntKind.max, IntKind.signed, IntKind.bits, Bool.and_eq_true, decide_eq_true_eq, Bool.false_eq_true, if_false] at this
    omega
  unfold spec_l6Open.f
  by_cases h : (l.length : Int) > 2000
  · rw [if_pos h, if_pos (by omega)]
    exact ⟨_, rfl, by simp; omega, fun x hx => hb x (List.mem_of_mem_take hx)⟩
  · rw [if_neg h]
    exact ⟨_, rfl, by omega, hb⟩
theorem of_ok (k : Nat) {l : List Int} (h : Bytes l) (p : Int) (hp : 0 ≤ p ∧ p ≤ 1000000) (ls : List ByteArray) (hn : 1 ≤ ls.length) (hn2 : ls.length ≤ 1000000) : ∃ e, e ∈ ls ∧ spec_l6Rd_of.f (k + 1) l p ls = some (e, p + 1) := by
  obtain ⟨v, hv, h0, h1⟩ := pick_ok k h p (ls.length : Int) hp (by omega)
  unfold spec_l6Rd_of.f
  rw [hv]
  simp only [bs]
  rw [if_pos h0, if_pos h1]
  have hl : v.toNat < ls.length := by omega
  refine ⟨ls[v.toNat], List.getElem_mem hl, ?_⟩
  unfold rdOf
  rw [List.getD_eq_getElem?_getD, List.getElem?_eq_getElem hl]
  rfl
theorem verse_end (k : Nat) {l : List Int} (h : Bytes l) (s : ByteArray) (p : Int) (hp : 0 ≤ p ∧ p ≤ 1000) (hs : s.size ≤ 100) : ∃ r q, spec_l91Verse.l0 (k + 2) s 2 l p = some (r, q) ∧ r.size ≤ 200 := by
  simp only [spec_l91Verse.l0]
  rw [if_neg (by omega)]
  obtain ⟨v, e, h0, h1⟩ := pick_ok k h p 24 (by omega) (by omega)
  rw [e]
  simp only [bs]
  by_cases c0 : v = 0
  · rw [if_pos c0]
    obtain ⟨t, ht, e2⟩ := of_ok k h (p + 1) (by omega) [⟨#[124, 120]⟩, ⟨#[121]⟩, ⟨#[]⟩] (by decide) (by decide)
    rw [e2]
    simp only [bs]
    have hz : t.size ≤ 2 := by
      simp at ht
      rcases ht with rfl | rfl | rfl <;> decide
    rw [if_pos (by omega)]
    exact ⟨_, _, rfl, by rw [ByteArray.size_append]; omega⟩
  · rw [if_neg c0]
    by_cases c1 : v = 1
    · rw [if_pos c1]
      obtain ⟨t, ht, e2⟩ := of_ok k h (p + 1) (by omega) [⟨#[]⟩, ⟨#[124]⟩, ⟨#[120, 124]⟩, ⟨#[124, 120]⟩, ⟨#[120, 120]⟩, ⟨#[120, 124, 47]⟩] (by decide) (by decide)
      rw [e2]
      simp only [bs]
      have hz : t.size ≤ 3 := by
        simp at ht
        rcases ht with rfl | rfl | rfl | rfl | rfl | rfl <;> decide
      exact ⟨_, _, rfl, by omega⟩
    · rw [if_neg c1]
      by_cases c2 : v = 2
      · rw [if_pos c2, if_pos (by omega)]
        refine ⟨_, _, rfl, ?_⟩
        rw [ByteArray.size_append]
        have : (⟨#[120, 120, 120, 120, 120, 120, 120, 120, 120, 120, 120, 120]⟩ : ByteArray).size = 12 := by decide
        omega
      · rw [if_neg c2]
        exact ⟨_, _, rfl, by omega⟩
/-- One half's syllables: whatever follows them comes to something, so does the whole. -/
theorem verse_row (x4 : Int) {l : List Int} (h : Bytes l) (x5 : Int) (hx : x5 ≤ 8) (d : Nat) : ∀ (k : Nat) (s : ByteArray) (x6 p : Int), x6 + d = x5 → 0 ≤ x6 → 0 ≤ p ∧ p + d ≤ 900 → s.size + d ≤ 80 →
    (∀ (s' : ByteArray) (p' : Int), s'.size ≤ s.size + d → p ≤ p' → p' ≤ p + d → ∃ r q, spec_l91Verse.l1 (k + 1) s' x4 x5 x5 l p' = some (r, q) ∧ r.size ≤ 200) →
    ∃ r q, spec_l91Verse.l1 (k + 1 + d) s x4 x5 x6 l p = some (r, q) ∧ r.size ≤ 200 := by
  induction d with
  | zero =>
    intro k s x6 p hd h0 hp hs H
    obtain rfl : x6 = x5 := by omega
    exact H s p (by omega) (by omega) (by omega)
  | succ d ih =>
    intro k s x6 p hd h0 hp hs H
    rw [show k + 1 + (d + 1) = (k + 1 + d) + 1 by omega]
    simp only [spec_l91Verse.l1]
    rw [if_pos (by omega)]
    obtain ⟨t, ht, e2⟩ := of_ok (k + d) h p (by omega) [⟨#[120]⟩, ⟨#[47]⟩, ⟨#[120]⟩] (by decide) (by decide)
    rw [show k + d + 1 = k + 1 + d by omega] at e2
    rw [e2]
    simp only [bs]
    have hz : t.size = 1 := by
      simp at ht
      rcases ht with rfl | rfl | rfl <;> decide
    rw [if_pos (by omega), w64 (by omega) (by omega)]
    exact ih k (s ++ t) (x6 + 1) (p + 1) (by omega) (by omega) (by omega) (by rw [ByteArray.size_append]; omega) (fun s' p' h1 h2 h3 => H s' p' (by rw [ByteArray.size_append] at h1; omega) (by omega) (by omega))
theorem verse_draw {l : List Int} (h : Bytes l) (k : Nat) : ∃ r q, spec_l91Verse.f (k + 40) l 0 = some (r, q) ∧ r.size ≤ 200 := by
  unfold spec_l91Verse.f
  -- the second half, with enough rounds
  have two : ∀ (n : Nat) (s : ByteArray) (p : Int), 0 ≤ p ∧ p ≤ 500 → s.size ≤ 40 → ∃ r q, spec_l91Verse.l0 (n + 14) s 1 l p = some (r, q) ∧ r.size ≤ 200 := by
    intro n s p hp hs
    rw [show n + 14 = (n + 13) + 1 by omega]
    simp only [spec_l91Verse.l0]
    rw [if_pos (by omega)]
    obtain ⟨v, e, h0, h1⟩ := pick_ok (n + 12) h p 8 (by omega) (by omega)
    rw [show n + 12 + 1 = n + 13 by omega] at e
    rw [e]
    simp only [bs]
    rw [w64 (by omega) (by omega)]
    obtain ⟨d, hd⟩ : ∃ d : Nat, (d : Int) = 1 + v := ⟨(1 + v).toNat, by omega⟩
    have := verse_row 1 h (1 + v) (by omega) d (n + 12 - d) s 0 (p + 1) (by omega) (by omega) (by omega) (by omega) (by
      intro s' p' g1 g2 g3
      simp only [spec_l91Verse.l1]
      rw [if_neg (by omega), if_neg (by omega), w64 (by omega) (by omega)]
      obtain ⟨m, hm⟩ : ∃ m, n + 12 - d = m + 2 := ⟨n + 10 - d, by omega⟩
      rw [hm]
      exact verse_end m h s' p' (by omega) (by omega))
    rw [show n + 12 - d + 1 + d = n + 13 by omega] at this
    exact this
  rw [show k + 40 = (k + 39) + 1 by omega]
  simp only [spec_l91Verse.l0]
  rw [if_pos (by omega)]
  obtain ⟨v, e, h0, h1⟩ := pick_ok (k + 38) h 0 8 (by omega) (by omega)
  rw [show k + 38 + 1 = k + 39 by omega] at e
  rw [e]
  simp only [bs]
  rw [w64 (by omega) (by omega)]
  obtain ⟨d, hd⟩ : ∃ d : Nat, (d : Int) = 1 + v := ⟨(1 + v).toNat, by omega⟩
  have := verse_row 0 h (1 + v) (by omega) d (k + 38 - d) ⟨#[]⟩ 0 (0 + 1) (by omega) (by omega) (by omega) (by have : (⟨#[]⟩ : ByteArray).size = 0 := rfl; omega) (by
    intro s' p' g1 g2 g3
    have g4 : s'.size ≤ d := by
      have : (⟨#[]⟩ : ByteArray).size = 0 := rfl
      omega
    simp only [spec_l91Verse.l1]
    rw [if_neg (by omega), if_pos trivial, if_pos (by omega), w64 (by omega) (by omega)]
    obtain ⟨m, hm⟩ : ∃ m, k + 38 - d = m + 14 := ⟨k + 24 - d, by omega⟩
    rw [hm]
    have hb : (⟨#[124]⟩ : ByteArray).size = 1 := rfl
    exact two m _ p' (by omega) (by rw [ByteArray.size_append]; omega))
  rw [show k + 38 - d + 1 + d = k + 39 by omega] at this
  exact this
theorem ib_join (m : List UInt8) : ∀ l : List UInt8, (∀ c ∈ l, c ≠ 124) → Lib.indexByte (l ++ 124 :: m) 124 = l.length
  | [], _ => rfl
  | a :: l, h => by
    have ih := ib_join m l (fun c hc => h c (List.mem_cons_of_mem _ hc))
    have ha : a ≠ 124 := h a List.mem_cons_self
    show (if (a == 124) = true then (0 : Int) else if (Lib.indexByte (l ++ 124 :: m) 124 == -1) = true then -1 else Lib.indexByte (l ++ 124 :: m) 124 + 1) = _
    rw [if_neg (by simpa using ha), ih, if_neg (by simp)]
    simp
theorem ib_none : ∀ l : List UInt8, (∀ c ∈ l, c ≠ 124) → Lib.indexByte l 124 = -1
  | [], _ => rfl
  | a :: l, h => by
    have ih := ib_none l (fun c hc => h c (List.mem_cons_of_mem _ hc))
    have ha : a ≠ 124 := h a List.mem_cons_self
    show (if (a == 124) = true then (0 : Int) else if (Lib.indexByte l 124 == -1) = true then -1 else Lib.indexByte l 124 + 1) = _
    rw [if_neg (by simpa using ha), ih, if_pos (by decide)]
theorem hv_bar (b : ByteArray) (h : hvB b = true) : ∀ c ∈ L b, c ≠ 124 := by
  unfold hvB at h
  rw [Bool.and_eq_true, List.all_eq_true] at h
  intro c hc e
  have := h.1 c hc
  rw [e] at this
  revert this
  decide
theorem cut_of_join (t x y : ByteArray) (hx : ∀ c ∈ L x, c ≠ 124) (h : L t = L x ++ 124 :: L y) : cutB t = (x, y, true) := by
  rw [cutB_eq, h, ib_join _ _ hx, if_neg (by omega), Int.toNat_natCast]
  have hs : t.size = (L x).length + 1 + (L y).length := by rw [L_size, h]; simp; omega
  have e1 : t.extract 0 (L x).length = x := ba_ext (by
    show (t.extract 0 _).data.toList = _
    rw [Lib.extract_data]
    show ((L t).drop 0).take _ = _
    rw [h]; simp)
  have e2 : t.extract ((L x).length + 1) t.size = y := ba_ext (by
    show (t.extract _ t.size).data.toList = _
    rw [Lib.extract_to_end]
    show (L t).drop _ = _
    rw [h, ← List.drop_drop, List.drop_left]
    rfl)
  rw [e1, e2]
theorem cut_of_none (t : ByteArray) (h : ∀ c ∈ L t, c ≠ 124) : (cutB t).2.2 = false := by
  rw [cutB_eq, ib_none _ h, if_pos rfl]
theorem L_append (a b : ByteArray) : L (a ++ b) = L a ++ L b := by simp [L]
theorem L_bar : L ⟨#[124]⟩ = [124] := rfl
/-- The number of syllables. -/
def sylV (s : ByteArray) : Int := if vv s = true then ((cutB s).1.size : Int) + ((cutB s).2.1.size : Int) else -1
theorem implSyl (s : ByteArray) (hs : s.size ≤ 1100000) : impl_VerseSyllables.f s = some (sylV s) := by
  have hz := cut_sizes s
  unfold impl_VerseSyllables.f sylV
  rw [implHalves s hs]
  simp only [bs]
  by_cases hv : vv s = true
  · rw [if_pos hv, if_pos hv]
    simp only [if_true]
    rw [w64 (by omega) (by omega)]
  · rw [if_neg hv, if_neg hv]
    simp only [Bool.false_eq_true, if_false]
theorem specSyl (s : ByteArray) (hs : s.size ≤ 1100000) (k : Nat) (hk : s.size < k) : spec_VerseSyllables.f k s = some (sylV s) := by
  have hz := cut_sizes s
  unfold spec_VerseSyllables.f sylV
  rw [specValidV s hs k hk]
  simp only [bs]
  by_cases hv : vv s = true
  · have := hz.1 (vv_cut s hv)
    rw [if_pos hv, if_pos hv, w64 (by omega) (by omega)]
    congr 1
    omega
  · rw [if_neg hv, if_neg hv]
theorem vv_mk (t x y : ByteArray) (hx : hvB x = true) (hy : hvB y = true) (h : L t = L x ++ 124 :: L y) (hs : x.size + y.size ≤ 20) : vv t = true ∧ cutB t = (x, y, true) := by
  have hc := cut_of_join t x y (hv_bar x hx) h
  refine ⟨?_, hc⟩
  unfold vv
  rw [hc]
  simp only [Bool.and_eq_true, decide_eq_true_eq]
  exact ⟨trivial, hs, hx, hy⟩
theorem vv_parts (s : ByteArray) (h : vv s = true) : (cutB s).2.2 = true ∧ (cutB s).1.size + (cutB s).2.1.size ≤ 20 ∧ hvB (cutB s).1 = true ∧ hvB (cutB s).2.1 = true := by
  unfold vv at h
  rw [Bool.and_eq_true, Bool.and_eq_true, Bool.and_eq_true, decide_eq_true_eq] at h
  exact h
theorem verse_core (k : Nat) (s : ByteArray) (hs : s.size ≤ 1000) : laws_FnVerse.j0 (k + 1) s (sylV s) (sylV s) (decide (sylV s < 0)) = some true := by
  simp only [laws_FnVerse.j0]
  by_cases hv : vv s = true
  · obtain ⟨h1, h2, h3, h4⟩ := vv_parts s hv
    have hj := cut_join s h1
    have hsz := (cut_sizes s).1 h1
    have hy : sylV s = ((cutB s).1.size : Int) + ((cutB s).2.1.size : Int) := by unfold sylV; rw [if_pos hv]
    have hb1 : (⟨#[124]⟩ : ByteArray).size = 1 := rfl
    rw [hy, decide_eq_false (by omega), implHalves s (by omega), if_pos hv]
    generalize (cutB s).1 = a at *
    generalize (cutB s).2.1 = b at *
    rw [if_neg (by simp)]
    simp only [bs, if_true]
    rw [if_pos (by omega), if_pos (by rw [ByteArray.size_append]; omega)]
    rw [if_pos (by rw [toList_L, toList_L, L_append, L_append, hj, L_bar, List.append_assoc]; rfl)]
    rw [if_pos (w64 (by omega) (by omega)), if_pos (by omega), if_pos (by omega), if_pos (by rw [ByteArray.size_append]; omega)]
    have sw := vv_mk (b ++ ⟨#[124]⟩ ++ a) b a h4 h3 (by rw [L_append, L_append, L_bar, List.append_assoc]; rfl) (by omega)
    rw [implSyl _ (by rw [ByteArray.size_append, ByteArray.size_append]; omega)]
    have e1 : sylV (b ++ ⟨#[124]⟩ ++ a) = (a.size : Int) + (b.size : Int) := by
      unfold sylV
      rw [if_pos sw.1, sw.2]
      show (b.size : Int) + (a.size : Int) = _
      omega
    rw [e1]
    simp only [bs]
    rw [if_pos trivial, if_pos (by omega)]
    have e2 : (cutB (a ++ b)).2.2 = false := cut_of_none _ (by
      intro c hc
      rw [L_append] at hc
      rcases List.mem_append.1 hc with h | h
      · exact hv_bar a h3 c h
      · exact hv_bar b h4 c h)
    have e3 : vv (a ++ b) = false := by unfold vv; rw [e2]; rfl
    have e4 : impl_VerseValid.f (a ++ b) = some false := by
      unfold impl_VerseValid.f
      rw [implHalves _ (by rw [ByteArray.size_append]; omega), if_neg (by rw [e3]; simp)]
      simp only [bs]
    rw [e4]
    simp only [bs, Bool.not_false]
  · have hy : sylV s = -1 := by unfold sylV; rw [if_neg hv]
    rw [hy]
    simp
theorem FnVerse (l : List Int) (_ : l.length ≤ 9223372036854775807) (hw : ∀ x ∈ l, (Lit.int .u8 x).wf = true) : ∃ k, laws_FnVerse.f k l = some true := by
  refine ⟨300, ?_⟩
  unfold laws_FnVerse.f spec_DrawVerseSyllables.f
  by_cases h : (l.length : Int) > 1048576
  · rw [if_pos h]
  rw [if_neg h]
  obtain ⟨l', e, hb⟩ := open_ok l hw
  obtain ⟨s, q, e2, hs⟩ := verse_draw hb 260
  rw [e]
  simp only [bs]
  rw [e2]
  simp only [bs]
  rw [implSyl s (by omega), specSyl s (by omega) _ (by omega)]
  simp only [bs, if_true]
  exact verse_core 299 s (by omega)
end Go.Proofs.YtocpicgepgphoaaDoor.ZA
