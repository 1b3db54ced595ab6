/- The plain laws: what the Lean functions of the walks come to. No program and no memory in sight. No condition beyond what each theorem says. -/
import Derived.Test.YtocpicgepgphoaaDoorXAx1
import Derived.Test.YtocpicgepgphoaaDoorXAx9
import Derived.Test.YtocpicgepgphoaaDoorXAx10
import Derived.Test.YtocpicgepgphoaaDoorXAx11
import Derived.Test.YtocpicgepgphoaaDoorXAx12
import Derived.Test.YtocpicgepgphoaaDoorXAx13
import Derived.Test.YtocpicgepgphoaaDoorXAx17
import Derived.Test.YtocpicgepgphoaaDoorXAx18
import Derived.Lib.IndexLaws
import Derived.Lib.IndexBytes
namespace Go.Proofs.YtocpicgepgphoaaDoor.ZA
open Go.RowKit Go.Proofs.YtocpicgepgphoaaDoor.XA Go.Proofs.YtocpicgepgphoaaDoorW.PrintWords Go.Proofs.YtocpicgepgphoaaDoorW.PrintLast
set_option linter.unusedVariables false
set_option linter.unusedSimpArgs false
theorem w64 {x : Int} (h0 : -9223372036854775808 ≤ x) (h1 : x < 9223372036854775808) : wrap64 x = x := by unfold wrap64; omega
/-- Not by rfl: so simp leaves a proof, and the kernel need not compare the two sides by running them. -/
theorem bs {α β : Type} (a : α) (f : α → Option β) : (some a).bind f = f a := by
  have h : ∀ o : Option α, o = some a → o.bind f = f a := by
    rintro _ rfl
    rfl
  exact h _ rfl
abbrev L (s : ByteArray) : List UInt8 := s.data.toList
theorem L_size (s : ByteArray) : s.size = (L s).length := Lib.size_eq s
theorem ba_ext {x y : ByteArray} (h : L x = L y) : x = y := by
  obtain ⟨⟨a⟩⟩ := x
  obtain ⟨⟨b⟩⟩ := y
  simp only [L] at h
  rw [h]
theorem L_mk (l : List UInt8) : L ⟨l.toArray⟩ = l := by simp [L]
theorem mk_L (s : ByteArray) : (⟨(L s).toArray⟩ : ByteArray) = s := ba_ext (L_mk _)
theorem bt_n (s : ByteArray) (n : Nat) (c : UInt8) (h : (L s)[n]? = some c) : bt s (n : Int) = (c.toNat : Int) := by
  have hn : n < s.size := by rw [L_size]; exact (List.getElem?_eq_some_iff.1 h).1
  unfold bt
  rw [dif_pos (by simpa using hn)]
  have e : s[((n : Int).toNat)]'(by simpa using hn) = c := by
    have h2 := (List.getElem?_eq_some_iff.1 h).2
    rw [← h2]
    rfl
  rw [e]
theorem drop_c (l : List UInt8) (n : Nat) (h : n < l.length) : ∃ c, l[n]? = some c ∧ l.drop n = c :: l.drop (n + 1) :=
  ⟨l[n], List.getElem?_eq_getElem h, List.drop_eq_getElem_cons h⟩
theorem w_succ {n : Nat} (h : n < 4611686018427387904) : wrap64 ((n : Int) + 1) = ((n + 1 : Nat) : Int) := by
  rw [w64 (by omega) (by omega)]; omega
theorem round {k d : Nat} (h : d < k) : ∃ m, k = m + 1 := ⟨k - 1, by omega⟩
theorem u8_of {c : UInt8} {k : Nat} (hk : k < 256) : ((c.toNat : Int) = (k : Int)) ↔ c = UInt8.ofNat k := by
  constructor
  · intro h
    apply UInt8.toNat_inj.1
    rw [UInt8.toNat_ofNat_of_lt' hk]
    omega
  · rintro rfl
    rw [UInt8.toNat_ofNat_of_lt' hk]
theorem toList_L (s : ByteArray) : s.toList = L s := Lib.toList_data s
theorem is_bar (c : UInt8) : ((c.toNat : Int) = 124) ↔ c = 124 := u8_of (k := 124) (by omega)
theorem is_x (c : UInt8) : ((c.toNat : Int) = 120) ↔ c = 120 := u8_of (k := 120) (by omega)
theorem is_ac (c : UInt8) : ((c.toNat : Int) = 47) ↔ c = 47 := u8_of (k := 47) (by omega)
theorem halves_loop (s : ByteArray) (hs : s.size ≤ 1100000) (d : Nat) : ∀ k n : Nat, n + d = s.size → d < k →
    spec_l4Halves.l0 k s (n : Int) = some (if Lib.indexByte ((L s).drop n) 124 = -1 then (s, ⟨#[]⟩) else (s.extract 0 (n + (Lib.indexByte ((L s).drop n) 124).toNat), s.extract (n + (Lib.indexByte ((L s).drop n) 124).toNat + 1) s.size)) := by
  induction d with
  | zero =>
    intro k n hn hk
    obtain ⟨k, rfl⟩ := round hk
    simp only [spec_l4Halves.l0]
    rw [if_neg (by omega), show (L s).drop n = [] from List.drop_eq_nil_of_le (by rw [← L_size]; omega)]
    rfl
  | succ d ih =>
    intro k n hn hk
    obtain ⟨k, rfl⟩ := round hk
    obtain ⟨c, hc, hd⟩ := drop_c (L s) n (by rw [← L_size]; omega)
    simp only [spec_l4Halves.l0]
    rw [if_pos (by omega), if_pos (by omega), bt_n s n c hc, w_succ (by omega), ih k (n + 1) (by omega) (by omega), hd]
    by_cases h : c = 124
    · subst h
      rw [if_pos (by decide), if_pos (by omega), if_pos (by omega), if_pos (by omega)]
      rw [show Lib.indexByte (124 :: (L s).drop (n + 1)) 124 = 0 from rfl, if_neg (by decide)]
      rfl
    · rw [if_neg (fun e => h ((is_bar c).1 e))]
      have e : Lib.indexByte (c :: (L s).drop (n + 1)) 124 = if Lib.indexByte ((L s).drop (n + 1)) 124 = -1 then -1 else Lib.indexByte ((L s).drop (n + 1)) 124 + 1 := by
        show (if (c == 124) = true then (0 : Int) else if (Lib.indexByte ((L s).drop (n + 1)) 124 == -1) = true then -1 else Lib.indexByte ((L s).drop (n + 1)) 124 + 1) = _
        rw [if_neg (by simpa using h)]
        simp
      rw [e]
      by_cases h2 : Lib.indexByte ((L s).drop (n + 1)) 124 = -1
      · rw [if_pos h2, if_pos h2, if_pos rfl]
      · have hge := Lib.indexByte_ge ((L s).drop (n + 1)) 124
        rw [if_neg h2, if_neg h2, if_neg (by omega)]
        have e2 : n + (Lib.indexByte ((L s).drop (n + 1)) 124 + 1).toNat = n + 1 + (Lib.indexByte ((L s).drop (n + 1)) 124).toNat := by omega
        rw [e2]
/-- What stands ahead of and behind the first bar. -/
def cutB (s : ByteArray) : ByteArray × ByteArray × Bool := (⟨(Lib.cut (L s) [124]).1.toArray⟩, ⟨(Lib.cut (L s) [124]).2.1.toArray⟩, (Lib.cut (L s) [124]).2.2)
theorem cutB_eq (s : ByteArray) : cutB s = if Lib.indexByte (L s) 124 = -1 then (s, ⟨#[]⟩, false) else (s.extract 0 (Lib.indexByte (L s) 124).toNat, s.extract ((Lib.indexByte (L s) 124).toNat + 1) s.size, true) := by
  unfold cutB Lib.cut
  rw [Lib.index_one]
  have hge := Lib.indexByte_ge (L s) 124
  by_cases h : Lib.indexByte (L s) 124 = -1
  · rw [if_neg (by omega), if_pos h, mk_L]
  · rw [if_pos (by omega), if_neg h]
    have e1 : (⟨((L s).take (Lib.indexByte (L s) 124).toNat).toArray⟩ : ByteArray) = s.extract 0 (Lib.indexByte (L s) 124).toNat := ba_ext (by rw [L_mk]; show _ = (s.extract 0 _).data.toList; rw [Lib.extract_data]; simp)
    have e2 : (⟨((L s).drop ((Lib.indexByte (L s) 124).toNat + [(124 : UInt8)].length)).toArray⟩ : ByteArray) = s.extract ((Lib.indexByte (L s) 124).toNat + 1) s.size := ba_ext (by rw [L_mk]; show _ = (s.extract _ s.size).data.toList; rw [Lib.extract_to_end]; rfl)
    rw [e1, e2]
theorem specHalves (s : ByteArray) (hs : s.size ≤ 1100000) (k : Nat) (hk : s.size < k) : spec_l4Halves.f k s = some ((cutB s).1, (cutB s).2.1) := by
  unfold spec_l4Halves.f
  have := halves_loop s hs s.size k 0 (by omega) hk
  rw [show ((0 : Nat) : Int) = 0 from rfl] at this
  rw [this, cutB_eq, List.drop_zero, Nat.zero_add]
  split <;> rfl
theorem cut_sizes (s : ByteArray) : ((cutB s).2.2 = true → (cutB s).1.size + (cutB s).2.1.size + 1 = s.size) ∧ ((cutB s).2.2 = false → (cutB s).2.1 = ⟨#[]⟩) ∧ (cutB s).1.size ≤ s.size ∧ (cutB s).2.1.size ≤ s.size := by
  rw [cutB_eq]
  have hge := Lib.indexByte_ge (L s) 124
  by_cases h : Lib.indexByte (L s) 124 = -1
  · rw [if_pos h]
    exact ⟨fun e => by simp at e, fun _ => rfl, Nat.le_refl _, Nat.zero_le _⟩
  · rw [if_neg h]
    obtain ⟨i, hi⟩ : ∃ i : Nat, Lib.indexByte (L s) 124 = i := ⟨(Lib.indexByte (L s) 124).toNat, by omega⟩
    have h2 := (Lib.indexByte_some hi).1
    have h3 := (List.getElem?_eq_some_iff.1 h2).1
    rw [← L_size] at h3
    rw [hi]
    simp only [Int.toNat_natCast, ByteArray.size_extract]
    refine ⟨fun _ => by omega, fun e => by simp at e, by omega, by omega⟩
/-- One half of a verse. -/
def hvB (b : ByteArray) : Bool := (L b).all (fun c => c == 120 || c == 47) && decide (0 < b.size)
theorem half_loop (s : ByteArray) (hs : s.size ≤ 1100000) (d : Nat) : ∀ k n : Nat, n + d = s.size → d < k →
    spec_l4Half.l0 k s (n : Int) = some (((L s).drop n).all (fun c => c == 120 || c == 47) && decide (0 < s.size)) := by
  induction d with
  | zero =>
    intro k n hn hk
    obtain ⟨k, rfl⟩ := round hk
    simp only [spec_l4Half.l0]
    rw [if_neg (by omega), show (L s).drop n = [] from List.drop_eq_nil_of_le (by rw [← L_size]; omega)]
    simp
  | succ d ih =>
    intro k n hn hk
    obtain ⟨k, rfl⟩ := round hk
    obtain ⟨c, hc, hd⟩ := drop_c (L s) n (by rw [← L_size]; omega)
    simp only [spec_l4Half.l0]
    rw [if_pos (by omega), if_pos (by omega), bt_n s n c hc, w_succ (by omega), ih k (n + 1) (by omega) (by omega), hd, List.all_cons]
    by_cases h : c = 120
    · subst h
      rw [if_pos (by decide)]
      simp
    · rw [if_neg (fun e => h ((is_x c).1 e))]
      by_cases h2 : c = 47
      · subst h2
        rw [if_pos (by decide)]
        simp
      · rw [if_neg (fun e => h2 ((is_ac c).1 e))]
        simp [h, h2]
theorem specHalf (s : ByteArray) (hs : s.size ≤ 1100000) (k : Nat) (hk : s.size < k) : spec_l4Half.f k s = some (hvB s) := by
  unfold spec_l4Half.f hvB
  have := half_loop s hs s.size k 0 (by omega) hk
  rw [show ((0 : Nat) : Int) = 0 from rfl] at this
  rw [this, List.drop_zero]
theorem dw_nil {α : Type} (p : α → Bool) : ∀ m : List α, m.dropWhile p = [] ↔ ∀ c ∈ m, p c = true
  | [] => by simp
  | a :: m => by
    rw [List.dropWhile_cons]
    by_cases h : p a = true
    · rw [if_pos h, dw_nil p m]
      simp [h]
    · rw [if_neg h]
      simp [h]
theorem dw_cons {α : Type} (p : α → Bool) : ∀ (l : List α) (a : α) (m : List α), l.dropWhile p = a :: m → p a = false
  | [], a, m, h => by simp at h
  | b :: l, a, m, h => by
    rw [List.dropWhile_cons] at h
    by_cases hb : p b = true
    · rw [if_pos hb] at h
      exact dw_cons p l a m h
    · rw [if_neg hb] at h
      injection h with h1 _
      rw [← h1]
      simpa using hb
theorem trim_nil (l cs : List UInt8) : Lib.trimS l cs = [] ↔ ∀ c ∈ l, cs.contains c = true := by
  have hr : ∀ m : List UInt8, m.dropWhile (cs.contains ·) = [] ↔ ∀ c ∈ m, cs.contains c = true := fun m => dw_nil _ m
  unfold Lib.trimS Lib.trimLeftS
  rw [hr]
  unfold Lib.trimRightS
  constructor
  · intro h
    have h1 : l.reverse.dropWhile (cs.contains ·) = [] := by
      cases hm : l.reverse.dropWhile (cs.contains ·) with
      | nil => rfl
      | cons a m =>
        have h2 : cs.contains a = false := dw_cons (cs.contains ·) l.reverse a m hm
        have := h a (by rw [hm]; simp)
        rw [h2] at this
        cases this
    intro c hc
    exact (hr l.reverse).1 h1 c (by simpa using hc)
  · intro h c hc
    have : c ∈ l.reverse.dropWhile (cs.contains ·) := by simpa using hc
    exact h c (by simpa using (List.dropWhile_sublist _).subset this)
theorem implHalf (b : ByteArray) (hs : b.size ≤ 1100000) : impl_halfValid.f b = some (hvB b) := by
  unfold impl_halfValid.f hvB strings_Trim.f
  rw [toList_L]
  by_cases h : L b = []
  · rw [if_pos h]
    have : b.size = 0 := by rw [L_size, h]; rfl
    rw [this]
    simp
  · rw [if_neg h, if_pos ⟨by omega, by decide, by decide⟩]
    simp only [Option.bind_some, toList_L, L_mk]
    have h0 : 0 < b.size := by rw [L_size]; exact List.length_pos_iff.2 h
    rw [decide_eq_true h0, Bool.and_true]
    congr 1
    rw [Bool.eq_iff_iff, beq_iff_eq, trim_nil, List.all_eq_true]
    constructor
    · intro g c hc
      have := g c hc
      simpa using this
    · intro g c hc
      have := g c hc
      simpa using this
/-- A text is a verse. -/
def vv (s : ByteArray) : Bool := (cutB s).2.2 && (decide ((cutB s).1.size + (cutB s).2.1.size ≤ 20) && (hvB (cutB s).1 && hvB (cutB s).2.1))
theorem implHalves (s : ByteArray) (hs : s.size ≤ 1100000) : impl_VerseHalves.f s = some (if vv s = true then ((cutB s).1, (cutB s).2.1, true) else (⟨#[]⟩, ⟨#[]⟩, false)) := by
  have hz := cut_sizes s
  unfold impl_VerseHalves.f strings_Cut.f vv
  rw [if_pos (by omega)]
  show (some (cutB s)).bind _ = _
  simp only [Option.bind_some]
  rw [implHalf _ (by omega), implHalf _ (by omega), w64 (by omega) (by omega)]
  cases (cutB s).2.2 with
  | false => simp
  | true =>
    rw [if_pos rfl]
    by_cases h : (cutB s).1.size + (cutB s).2.1.size ≤ 20
    · rw [if_neg (by omega), decide_eq_true h]
      cases hvB (cutB s).1 <;> cases hvB (cutB s).2.1 <;> simp
    · rw [if_pos (by omega), decide_eq_false h]
      simp
theorem specValidV (s : ByteArray) (hs : s.size ≤ 1100000) (k : Nat) (hk : s.size < k) : spec_VerseValid.f k s = some (vv s) := by
  have hz := cut_sizes s
  unfold spec_VerseValid.f vv
  rw [specHalves s hs k hk]
  simp only [Option.bind_some]
  rw [specHalf _ (by omega) _ (by omega), specHalf _ (by omega) _ (by omega), w64 (by omega) (by omega)]
  cases hc : (cutB s).2.2 with
  | false =>
    rw [hz.2.1 hc]
    have : hvB ⟨#[]⟩ = false := by decide
    rw [this]
    cases hvB (cutB s).1 <;> simp
  | true =>
    cases hvB (cutB s).1 <;> cases hvB (cutB s).2.1 <;> simp
    omega
theorem vv_cut (s : ByteArray) (h : vv s = true) : (cutB s).2.2 = true := by
  unfold vv at h
  generalize (cutB s).2.2 = a at h ⊢
  cases a with
  | false => simp at h
  | true => rfl
theorem cut_join (s : ByteArray) (h : (cutB s).2.2 = true) : L s = L (cutB s).1 ++ 124 :: L (cutB s).2.1 := by
  rw [cutB_eq] at h ⊢
  have hge := Lib.indexByte_ge (L s) 124
  by_cases hi : Lib.indexByte (L s) 124 = -1
  · rw [if_pos hi] at h
    cases h
  · rw [if_neg hi]
    obtain ⟨i, he⟩ : ∃ i : Nat, Lib.indexByte (L s) 124 = i := ⟨(Lib.indexByte (L s) 124).toNat, by omega⟩
    obtain ⟨h2, _⟩ := Lib.indexByte_some he
    obtain ⟨h3, h4⟩ := List.getElem?_eq_some_iff.1 h2
    rw [he]
    simp only [Int.toNat_natCast]
    have e1 : L (s.extract 0 i) = (L s).take i := by
      show (s.extract 0 i).data.toList = _
      rw [Lib.extract_data]; simp
    have e2 : L (s.extract (i + 1) s.size) = (L s).drop (i + 1) := Lib.extract_to_end s (i + 1)
    rw [e1, e2, ← h4, ← List.drop_eq_getElem_cons h3, List.take_append_drop]
theorem last_bd (s : ByteArray) (c : Int) : ∀ m : Nat, -1 ≤ Lib.lastIdx s c m ∧ Lib.lastIdx s c m < m
  | 0 => by unfold Lib.lastIdx; omega
  | m + 1 => by
    have := last_bd s c m
    unfold Lib.lastIdx
    split <;> omega
theorem data_get (s : ByteArray) (n : Nat) (c : UInt8) (h : (L s)[n]? = some c) : s.data[n]! = c := by
  have h1 : s.data[n]? = some c := by simpa [L] using h
  rw [getElem!_def, h1]
theorem end_loop (s : ByteArray) (hs : s.size ≤ 1100000) (hv : (L s).all (fun c => c == 120 || c == 47) = true) : ∀ (m k : Nat) (cn : Int), m ≤ s.size → m < k → 0 ≤ cn → cn + m ≤ s.size →
    spec_l4End.l0 k s cn ((m : Int) - 1) = some (cn + (m - 1 - Lib.lastIdx s 47 m)) := by
  intro m
  induction m with
  | zero =>
    intro k cn hm hk h0 h1
    obtain ⟨k, rfl⟩ := round hk
    simp only [spec_l4End.l0]
    rw [if_neg (by omega)]
    simp [Lib.lastIdx]
  | succ m ih =>
    intro k cn hm hk h0 h1
    obtain ⟨k, rfl⟩ := round hk
    obtain ⟨c, hc, _⟩ := drop_c (L s) m (by rw [← L_size]; omega)
    have hm2 : c = 120 ∨ c = 47 := by
      have := List.all_eq_true.1 hv c (List.mem_of_getElem? hc)
      simpa using this
    simp only [spec_l4End.l0]
    rw [show ((m + 1 : Nat) : Int) - 1 = (m : Int) by omega, if_pos (by omega), if_pos (by omega), if_pos (by omega), bt_n s m c hc]
    have hb := last_bd s 47 m
    rcases hm2 with h | h
    · rw [if_pos ((is_x c).2 h), w64 (x := cn + 1) (by omega) (by omega), w64 (x := (m : Int) - 1) (by omega) (by omega), ih k (cn + 1) (by omega) (by omega) (by omega) (by omega)]
      rw [Lib.lastIdx_miss s 47 m (by rw [data_get s m c hc, h]; decide)]
      congr 1
      omega
    · rw [if_neg (fun e => by rw [h] at e; revert e; decide), Lib.lastIdx_hit s 47 m (by rw [data_get s m c hc, h]; decide)]
      congr 1
      omega
/-- The number of weak syllables behind the last accent of a half. -/
def endV (b : ByteArray) : Int := b.size - 1 - Lib.lastIndexByte b 47
theorem implEnd (b : ByteArray) (hs : b.size ≤ 1100000) : impl_weakBehind.f b = some (endV b) := by
  have hb := last_bd b 47 b.size
  unfold impl_weakBehind.f strings_LastIndexByte.f endV Lib.lastIndexByte
  rw [if_pos (by omega)]
  simp only [bs]
  rw [w64 (x := (b.size : Int) - 1) (by omega) (by omega), w64 (by omega) (by omega)]
theorem specEnd (b : ByteArray) (hs : b.size ≤ 1100000) (hv : hvB b = true) (k : Nat) (hk : b.size < k) : spec_l4End.f k b = some (endV b) := by
  unfold spec_l4End.f endV Lib.lastIndexByte
  have h1 : (L b).all (fun c => c == 120 || c == 47) = true := by
    unfold hvB at hv
    rw [Bool.and_eq_true] at hv
    exact hv.1
  rw [w64 (by omega) (by omega), end_loop b hs h1 b.size k 0 (by omega) hk (by omega) (by omega)]
  congr 1
  omega
theorem vv_parts (s : ByteArray) (h : vv s = true) : (cutB s).2.2 = true ∧ (cutB s).1.size + (cutB s).2.1.size ≤ 20 ∧ hvB (cutB s).1 = true ∧ hvB (cutB s).2.1 = true := by
  unfold vv at h
  rw [Bool.and_eq_true, Bool.and_eq_true, Bool.and_eq_true, decide_eq_true_eq] at h
  exact h
theorem implEnds (s : ByteArray) (hs : s.size ≤ 1100000) : impl_VerseEnds.f s = some (if vv s = true then (endV (cutB s).1, endV (cutB s).2.1, true) else (0, 0, false)) := by
  have hz := cut_sizes s
  unfold impl_VerseEnds.f
  rw [implHalves s hs]
  simp only [bs]
  by_cases hv : vv s = true
  · rw [if_pos hv, if_pos hv]
    simp only [if_true]
    rw [implEnd _ (by omega), implEnd _ (by omega)]
    simp only [bs]
  · rw [if_neg hv, if_neg hv]
    simp only [Bool.false_eq_true, if_false]
theorem specEnds (s : ByteArray) (hs : s.size ≤ 1100000) (k : Nat) (hk : s.size < k) : spec_VerseEnds.f k s = some (if vv s = true then (endV (cutB s).1, endV (cutB s).2.1, true) else (0, 0, false)) := by
  have hz := cut_sizes s
  unfold spec_VerseEnds.f
  rw [specValidV s hs k hk, specHalves s hs k hk]
  simp only [bs]
  by_cases hv : vv s = true
  · obtain ⟨_, _, h1, h2⟩ := vv_parts s hv
    rw [if_pos hv, if_pos hv, specEnd _ (by omega) h1 _ (by omega), specEnd _ (by omega) h2 _ (by omega)]
    simp only [bs]
  · rw [if_neg hv, if_neg hv]
theorem FnExactVerseEnds (s : ByteArray) (_ : s.size ≤ 140737488351232) : ∃ k, laws_FnExactVerseEnds.f k s = some true := by
  refine ⟨s.size + 1, ?_⟩
  unfold laws_FnExactVerseEnds.f
  by_cases h : (s.size : Int) > 1048576
  · rw [if_pos h]
  rw [if_neg h, specEnds s (by omega) _ (by omega), implEnds s (by omega)]
  simp only [bs, if_true, bne_self_eq_false, Bool.false_eq_true, if_false]
theorem rd_n (l : List Int) (n : Nat) : rd l (n : Int) = l.getD n 0 := by
  unfold rd; rw [Int.toNat_natCast]
theorem dropI (l : List Int) (n : Nat) (h : n < l.length) : l.drop n = l.getD n 0 :: l.drop (n + 1) := by
  rw [List.drop_eq_getElem_cons h, List.getD_eq_getElem?_getD, List.getElem?_eq_getElem h]; rfl
/-- The numbers from c on, one a place. -/
def cnt : List Int → Int → List Int
  | [], _ => []
  | _ :: xs, c => c :: cnt xs (c + 1)
theorem cnt_len : ∀ (l : List Int) (c : Int), (cnt l c).length = l.length
  | [], _ => rfl
  | _ :: xs, c => by simp [cnt, cnt_len xs (c + 1)]
theorem cnt_eq : ∀ (l m : List Int) (c : Int), l.length = m.length → cnt l c = cnt m c
  | [], [], _, _ => rfl
  | [], _ :: _, _, h => by simp at h
  | _ :: _, [], _, h => by simp at h
  | _ :: xs, _ :: ys, c, h => by simp only [cnt]; rw [cnt_eq xs ys _ (by simpa using h)]
theorem eqInts_loop (l : List Int) (hl : l.length ≤ 4000000) (d : Nat) : ∀ (k n : Nat), n + d = l.length → d < k → laws_eqIntS.l0 k l l (n : Int) = some true := by
  induction d with
  | zero =>
    intro k n hn hk
    obtain ⟨k, rfl⟩ := round hk
    simp only [laws_eqIntS.l0]
    rw [if_neg (by omega)]
  | succ d ih =>
    intro k n hn hk
    obtain ⟨k, rfl⟩ := round hk
    simp only [laws_eqIntS.l0]
    rw [if_pos (by omega), if_pos (by omega), if_pos (by omega), if_pos trivial, w_succ (by omega), ih k (n + 1) (by omega) (by omega)]
theorem eqInts (l : List Int) (hl : l.length ≤ 4000000) (k : Nat) (hk : l.length < k) : laws_eqIntS.f k l l = some true := by
  unfold laws_eqIntS.f
  rw [if_pos rfl]
  exact eqInts_loop l hl l.length k 0 (by omega) hk
theorem markI_loop (d : Nat) : ∀ (l : List Int) (k n : Nat) (c : Int), l.length ≤ 4000000 → n + d = l.length → d < k → 0 ≤ c → c + d ≤ 4000000000 →
    laws_markIntS.l0 k l c (n : Int) = some (c + d, l.take n ++ cnt (l.drop n) c) := by
  induction d with
  | zero =>
    intro l k n c hl hn hk h0 hc
    obtain ⟨k, rfl⟩ := round hk
    simp only [laws_markIntS.l0]
    rw [if_neg (by omega), List.take_of_length_le (by omega), List.drop_eq_nil_of_le (by omega)]
    simp [cnt]
  | succ d ih =>
    intro l k n c hl hn hk h0 hc
    obtain ⟨k, rfl⟩ := round hk
    simp only [laws_markIntS.l0]
    have h1 : n < l.length := by omega
    rw [if_pos (by omega), if_pos (by omega), Int.toNat_natCast, w64 (x := c + 1) (by omega) (by omega), w_succ (by omega)]
    rw [ih _ k (n + 1) (c + 1) (by simpa using hl) (by simp; omega) (by omega) (by omega) (by omega)]
    have e1 : (l.set n c).drop (n + 1) = l.drop (n + 1) := List.drop_set_of_lt (by omega)
    have e2 : (l.set n c).take (n + 1) = l.take n ++ [c] := by
      rw [List.take_add_one, List.take_set_of_le (Nat.le_refl _), List.getElem?_set_self h1]; rfl
    rw [e1, e2, dropI l n h1]
    simp only [cnt, List.append_assoc, List.cons_append, List.nil_append]
    congr 2
    omega
theorem markedI (l : List Int) (hl : l.length ≤ 4000000) (k : Nat) (hk : l.length < k) (c : Int) (hc : 0 ≤ c ∧ c ≤ 1000000000) : laws_markIntS.f k l c = some (c + l.length, cnt l c) := by
  unfold laws_markIntS.f
  have := markI_loop l.length l k 0 c hl (by omega) hk hc.1 (by omega)
  simpa using this
theorem heldI_loop (d : Nat) : ∀ (l : List Int) (k n : Nat) (c : Int), l.length ≤ 4000000 → n + d = l.length → d < k → 0 ≤ c → c + d ≤ 4000000000 → l.drop n = cnt (l.drop n) c →
    laws_heldIntS.l0 k l c (n : Int) = some (c + d) := by
  induction d with
  | zero =>
    intro l k n c hl hn hk h0 hc _
    obtain ⟨k, rfl⟩ := round hk
    simp only [laws_heldIntS.l0]
    rw [if_neg (by omega)]
    simp
  | succ d ih =>
    intro l k n c hl hn hk h0 hc hm
    obtain ⟨k, rfl⟩ := round hk
    have h1 : n < l.length := by omega
    rw [dropI l n h1] at hm
    simp only [cnt, List.cons.injEq] at hm
    obtain ⟨hm1, hm2⟩ := hm
    simp only [laws_heldIntS.l0]
    rw [if_pos (by omega), if_pos (by omega), rd_n, hm1, if_pos rfl, w64 (x := c + 1) (by omega) (by omega), w_succ (by omega), ih l k (n + 1) (c + 1) hl (by omega) (by omega) (by omega) (by omega) hm2]
    congr 1
    omega
theorem heldI (l : List Int) (hl : l.length ≤ 4000000) (k : Nat) (hk : l.length < k) (c : Int) (hc : 0 ≤ c ∧ c ≤ 1000000000) : laws_heldIntS.f k (cnt l c) c = some (c + l.length) := by
  unfold laws_heldIntS.f
  have := heldI_loop l.length (cnt l c) k 0 c (by rw [cnt_len]; exact hl) (by rw [cnt_len]; omega) hk hc.1 (by omega) (by simp [cnt_eq _ _ c (cnt_len l c)])
  simpa using this
/-- The places of the accents, from n on. -/
def accs : List UInt8 → Int → List Int
  | [], _ => []
  | c :: l, n => if c = 47 then n :: accs l (n + 1) else accs l (n + 1)
theorem accs_len : ∀ (l : List UInt8) (n : Int), (accs l n).length ≤ l.length
  | [], _ => Nat.le_refl _
  | c :: l, n => by
    have := accs_len l (n + 1)
    simp only [accs]
    split <;> simp <;> omega
theorem implAcc_loop (s : ByteArray) (hs : s.size ≤ 1100000) (d : Nat) : ∀ (k n : Nat) (x : List Int), n + d = s.size → d < k → x.length ≤ n →
    impl_VerseAccents.l0 k x s (s.size : Int) (n : Int) = some (x ++ accs ((L s).drop n) n) := by
  induction d with
  | zero =>
    intro k n x hn hk hx
    obtain ⟨k, rfl⟩ := round hk
    simp only [impl_VerseAccents.l0]
    rw [if_neg (by omega), show (L s).drop n = [] from List.drop_eq_nil_of_le (by rw [← L_size]; omega)]
    simp [accs]
  | succ d ih =>
    intro k n x hn hk hx
    obtain ⟨k, rfl⟩ := round hk
    obtain ⟨c, hc, hd⟩ := drop_c (L s) n (by rw [← L_size]; omega)
    simp only [impl_VerseAccents.l0]
    rw [if_pos (by omega), if_pos (by omega), if_pos (by omega), bt_n s n c hc, w_succ (by omega), hd]
    simp only [accs]
    by_cases h : c = 47
    · rw [if_pos ((is_ac c).2 h), if_pos h, if_pos (by omega), ih k (n + 1) _ (by omega) (by omega) (by simp; omega)]
      simp
    · rw [if_neg (fun e => h ((is_ac c).1 e)), if_neg h, ih k (n + 1) _ (by omega) (by omega) (by omega)]
      simp
theorem specAcc_loop (s : ByteArray) (hs : s.size ≤ 1100000) (d : Nat) : ∀ (k n : Nat) (x : List Int), n + d = s.size → d < k → x.length ≤ n →
    spec_VerseAccents.l0 k x s (n : Int) = some (x ++ accs ((L s).drop n) n) := by
  induction d with
  | zero =>
    intro k n x hn hk hx
    obtain ⟨k, rfl⟩ := round hk
    simp only [spec_VerseAccents.l0]
    rw [if_neg (by omega), show (L s).drop n = [] from List.drop_eq_nil_of_le (by rw [← L_size]; omega)]
    simp [accs]
  | succ d ih =>
    intro k n x hn hk hx
    obtain ⟨k, rfl⟩ := round hk
    obtain ⟨c, hc, hd⟩ := drop_c (L s) n (by rw [← L_size]; omega)
    simp only [spec_VerseAccents.l0]
    rw [if_pos (by omega), if_pos (by omega), bt_n s n c hc, w_succ (by omega), hd]
    simp only [accs]
    by_cases h : c = 47
    · rw [if_pos ((is_ac c).2 h), if_pos h, if_pos (by omega), ih k (n + 1) _ (by omega) (by omega) (by simp; omega)]
      simp
    · rw [if_neg (fun e => h ((is_ac c).1 e)), if_neg h, ih k (n + 1) _ (by omega) (by omega) (by omega)]
      simp
theorem L_append (a b : ByteArray) : L (a ++ b) = L a ++ L b := by simp [L]
/-- The accents of a verse. -/
def accV (s : ByteArray) : List Int := if vv s = true then accs (L (cutB s).1 ++ L (cutB s).2.1) 0 else []
theorem accV_len (s : ByteArray) : (accV s).length ≤ 20 := by
  unfold accV
  by_cases hv : vv s = true
  · obtain ⟨_, h1, _, _⟩ := vv_parts s hv
    rw [if_pos hv]
    have := accs_len (L (cutB s).1 ++ L (cutB s).2.1) 0
    rw [List.length_append, ← L_size, ← L_size] at this
    omega
  · rw [if_neg hv]; simp
theorem implAcc (s : ByteArray) (hs : s.size ≤ 1100000) (k : Nat) (hk : s.size < k) : impl_VerseAccents.f k s = some (accV s) := by
  have hz := cut_sizes s
  unfold impl_VerseAccents.f accV
  rw [implHalves s hs]
  simp only [bs]
  by_cases hv : vv s = true
  · have hj := hz.1 (vv_parts s hv).1
    rw [if_pos hv, if_pos hv]
    simp only [if_true]
    rw [if_pos (by omega)]
    have hsz : ((cutB s).1 ++ (cutB s).2.1).size = (cutB s).1.size + (cutB s).2.1.size := ByteArray.size_append
    have := implAcc_loop ((cutB s).1 ++ (cutB s).2.1) (by omega) ((cutB s).1 ++ (cutB s).2.1).size k 0 [] (by omega) (by omega) (by simp)
    rw [show ((0 : Nat) : Int) = 0 from rfl] at this
    rw [this, List.drop_zero, L_append, List.nil_append]
  · rw [if_neg hv, if_neg hv]
    simp only [Bool.false_eq_true, if_false]
theorem specAcc (s : ByteArray) (hs : s.size ≤ 1100000) (k : Nat) (hk : s.size < k) : spec_VerseAccents.f k s = some (accV s) := by
  have hz := cut_sizes s
  unfold spec_VerseAccents.f accV
  rw [specValidV s hs k hk, specHalves s hs k hk]
  simp only [bs]
  by_cases hv : vv s = true
  · have hj := hz.1 (vv_parts s hv).1
    rw [if_pos hv, if_pos hv, if_pos (by omega)]
    have hsz : ((cutB s).1 ++ (cutB s).2.1).size = (cutB s).1.size + (cutB s).2.1.size := ByteArray.size_append
    have := specAcc_loop ((cutB s).1 ++ (cutB s).2.1) (by omega) ((cutB s).1 ++ (cutB s).2.1).size k 0 [] (by omega) (by omega) (by simp)
    rw [show ((0 : Nat) : Int) = 0 from rfl] at this
    rw [this, List.drop_zero, L_append, List.nil_append]
  · rw [if_neg hv, if_neg hv]
theorem FnExactVerseAccents (s : ByteArray) (_ : s.size ≤ 140737488351232) : ∃ k, laws_FnExactVerseAccents.f k s = some true := by
  refine ⟨s.size + 30, ?_⟩
  unfold laws_FnExactVerseAccents.f
  by_cases h : (s.size : Int) > 1048576
  · rw [if_pos h]
  have ha := accV_len s
  rw [if_neg h, specAcc s (by omega) _ (by omega), implAcc s (by omega) _ (by omega)]
  simp only [bs]
  generalize accV s = r at ha ⊢
  rw [eqInts r (by omega) _ (by omega)]
  simp only [bs, if_true]
  rw [markedI r (by omega) _ (by omega) 1 (by omega)]
  simp only [bs]
  rw [heldI r (by omega) _ (by omega) 1 (by omega)]
  simp only [bs, if_true]
  rw [if_neg (by omega), if_neg (by omega)]
theorem xor_i64 (a b : Int) (h1 : 0 ≤ a) (h2 : a < 4611686018427387904) (h3 : 0 ≤ b) (h4 : b < 4611686018427387904) : 0 ≤ Go.bits .xor .i64 a b := by
  obtain ⟨A, rfl⟩ := Int.eq_ofNat_of_zero_le h1
  obtain ⟨B, rfl⟩ := Int.eq_ofNat_of_zero_le h3
  have hA : (BitVec.ofInt 64 (A : Int)).toNat = A := by
    rw [BitVec.ofInt_natCast, BitVec.toNat_ofNat]; exact Nat.mod_eq_of_lt (by omega)
  have hB : (BitVec.ofInt 64 (B : Int)).toNat = B := by
    rw [BitVec.ofInt_natCast, BitVec.toNat_ofNat]; exact Nat.mod_eq_of_lt (by omega)
  have hx : A ^^^ B < 2 ^ 62 := Nat.xor_lt_two_pow (by omega) (by omega)
  show 0 ≤ IntKind.i64.wrap ((BitVec.ofInt 64 (A : Int) ^^^ BitVec.ofInt 64 (B : Int)).toNat : Int)
  rw [BitVec.toNat_xor, hA, hB, i64_w]
  unfold wrap64
  omega
/-- The bytes that are read. -/
def Bytes (l : List Int) : Prop := l.length ≤ 2000 ∧ ∀ x ∈ l, 0 ≤ x ∧ x ≤ 255
theorem rd_byte {l : List Int} (h : Bytes l) (i : Int) : 0 ≤ rd l i ∧ rd l i ≤ 255 := by
  unfold rd
  rw [List.getD_eq_getElem?_getD]
  cases hx : l[i.toNat]? with
  | none => simp
  | some x => exact h.2 x (List.mem_of_getElem? hx)
theorem pick_ok (k : Nat) {l : List Int} (h : Bytes l) (p n : Int) (hp : 0 ≤ p ∧ p ≤ 1000000) (hn : 1 ≤ n ∧ n ≤ 1000000) : ∃ v, spec_l6Rd_pick.f (k + 1) l p n = some (v, p + 1) ∧ 0 ≤ v ∧ v < n := by
  obtain ⟨hlen, hb⟩ := id h
  unfold spec_l6Rd_pick.f
  rw [if_neg (by omega), w64 (by omega) (by omega)]
  simp only [spec_l6Rd_pick.j0]
  by_cases h0 : (l.length : Int) = 0
  · rw [if_pos (by simpa using h0)]
    exact ⟨0, rfl, by omega, by omega⟩
  · rw [if_neg (by simpa using h0)]
    have hL : 0 < (l.length : Int) := by omega
    rw [show p + 1 - 1 = p by omega, w64 (x := p) (by omega) (by omega)]
    have fin : ∀ x : Int, 0 ≤ x → ∃ v, some (Int.tmod x n, p + 1) = some (v, p + 1) ∧ 0 ≤ v ∧ v < n := fun x hx =>
      ⟨_, rfl, by rw [Int.tmod_eq_emod_of_nonneg hx]; exact Int.emod_nonneg _ (by omega), by rw [Int.tmod_eq_emod_of_nonneg hx]; exact Int.emod_lt_of_pos _ (by omega)⟩
    by_cases h1 : p < (l.length : Int)
    · rw [if_pos h1, if_pos hp.1, if_neg (by omega)]
      have hr := rd_byte h p
      rw [w64 (by omega) (by omega)]
      exact fin _ hr.1
    · rw [if_neg h1, if_neg h0]
      have e1 : Int.tmod p (l.length : Int) = p % (l.length : Int) := Int.tmod_eq_emod_of_nonneg hp.1
      have m0 := Int.emod_nonneg p (show (l.length : Int) ≠ 0 by omega)
      have m1 := Int.emod_lt_of_pos p hL
      have e2 : Int.tmod (wrap64 (wrap64 (p * 7) + 3)) (l.length : Int) = (p * 7 + 3) % (l.length : Int) := by
        rw [w64 (x := p * 7) (by omega) (by omega), w64 (by omega) (by omega)]
        exact Int.tmod_eq_emod_of_nonneg (by omega)
      have n0 := Int.emod_nonneg (p * 7 + 3) (show (l.length : Int) ≠ 0 by omega)
      have n1 := Int.emod_lt_of_pos (p * 7 + 3) hL
      have e3 : Int.tdiv p (l.length : Int) = p / (l.length : Int) := Int.tdiv_eq_ediv_of_nonneg hp.1
      have d0 : 0 ≤ p / (l.length : Int) := Int.ediv_nonneg hp.1 (by omega)
      have d1 : p / (l.length : Int) ≤ p := Int.ediv_le_self _ hp.1
      rw [e1, e2, e3, if_pos m0, if_pos m1, if_pos n0, if_pos n1, if_neg (by omega)]
      have r1 := rd_byte h (p % (l.length : Int))
      have r2 := rd_byte h ((p * 7 + 3) % (l.length : Int))
      generalize rd l (p % (l.length : Int)) = a at r1 ⊢
      generalize rd l ((p * 7 + 3) % (l.length : Int)) = b at r2 ⊢
      generalize p / (l.length : Int) = d at d0 d1 ⊢
      have s1 : wrap64 (wrap64 (wrap64 (wrap64 (wrap64 a * 131) + wrap64 (wrap64 b * 1117)) + wrap64 (p * 29)) + wrap64 (wrap64 d * 53)) = a * 131 + b * 1117 + p * 29 + d * 53 := by
        rw [w64 (x := a) (by omega) (by omega), w64 (x := b) (by omega) (by omega), w64 (x := d) (by omega) (by omega), w64 (x := a * 131) (by omega) (by omega), w64 (x := b * 1117) (by omega) (by omega),
          w64 (x := p * 29) (by omega) (by omega), w64 (x := d * 53) (by omega) (by omega), w64 (x := a * 131 + b * 1117) (by omega) (by omega), w64 (x := a * 131 + b * 1117 + p * 29) (by omega) (by omega), w64 (by omega) (by omega)]
      rw [s1]
      refine fin _ (xor_i64 _ _ (by omega) (by omega) ?_ ?_)
      · rw [Int.tdiv_eq_ediv_of_nonneg (by omega), w64 (by omega) (by omega)]; omega
      · rw [Int.tdiv_eq_ediv_of_nonneg (by omega), w64 (by omega) (by omega)]; omega
theorem open_ok (l : List Int) (hw : ∀ x ∈ l, (Lit.int .u8 x).wf = true) : ∃ l', spec_l6Open.f l = some (l', 0) ∧ Bytes l' := by
  have hb : ∀ x ∈ l, 0 ≤ x ∧ x ≤ 255 := fun x hx => by
    have := hw x hx
    simp only [Lit.wf, IntKind.min, IntKind.max, IntKind.signed, IntKind.bits, Bool.and_eq_true, decide_eq_true_eq, Bool.false_eq_true, if_false] at this
    omega
  unfold spec_l6Open.f
  by_cases h : (l.length : Int) > 2000
  · rw [if_pos h, if_pos (by omega)]
    exact ⟨_, rfl, by simp; omega, fun x hx => hb x (List.mem_of_mem_take hx)⟩
  · rw [if_neg h]
    exact ⟨_, rfl, by omega, hb⟩
theorem of_ok (k : Nat) {l : List Int} (h : Bytes l) (p : Int) (hp : 0 ≤ p ∧ p ≤ 1000000) (ls : List ByteArray) (hn : 1 ≤ ls.length) (hn2 : ls.length ≤ 1000000) : ∃ e, e ∈ ls ∧ spec_l6Rd_of.f (k + 1) l p ls = some (e, p + 1) := by
  obtain ⟨v, hv, h0, h1⟩ := pick_ok k h p (ls.length : Int) hp (by omega)
  unfold spec_l6Rd_of.f
  rw [hv]
  simp only [bs]
  rw [if_pos h0, if_pos h1]
  have hl : v.toNat < ls.length := by omega
  refine ⟨ls[v.toNat], List.getElem_mem hl, ?_⟩
  unfold rdOf
  rw [List.getD_eq_getElem?_getD, List.getElem?_eq_getElem hl]
  rfl
theorem verse_end (k : Nat) {l : List Int} (h : Bytes l) (s : ByteArray) (p : Int) (hp : 0 ≤ p ∧ p ≤ 1000) (hs : s.size ≤ 100) : ∃ r q, spec_l91Verse.l0 (k + 2) s 2 l p = some (r, q) ∧ r.size ≤ 200 := by
  simp only [spec_l91Verse.l0]
  rw [if_neg (by omega)]
  obtain ⟨v, e, h0, h1⟩ := pick_ok k h p 24 (by omega) (by omega)
  rw [e]
  simp only [bs]
  by_cases c0 : v = 0
  · rw [if_pos c0]
    obtain ⟨t, ht, e2⟩ := of_ok k h (p + 1) (by omega) [⟨#[124, 120]⟩, ⟨#[121]⟩, ⟨#[]⟩] (by decide) (by decide)
    rw [e2]
    simp only [bs]
    have hz : t.size ≤ 2 := by
      simp at ht
      rcases ht with rfl | rfl | rfl <;> decide
    rw [if_pos (by omega)]
    exact ⟨_, _, rfl, by rw [ByteArray.size_append]; omega⟩
  · rw [if_neg c0]
    by_cases c1 : v = 1
    · rw [if_pos c1]
      obtain ⟨t, ht, e2⟩ := of_ok k h (p + 1) (by omega) [⟨#[]⟩, ⟨#[124]⟩, ⟨#[120, 124]⟩, ⟨#[124, 120]⟩, ⟨#[120, 120]⟩, ⟨#[120, 124, 47]⟩] (by decide) (by decide)
      rw [e2]
      simp only [bs]
      have hz : t.size ≤ 3 := by
        simp at ht
        rcases ht with rfl | rfl | rfl | rfl | rfl | rfl <;> decide
      exact ⟨_, _, rfl, by omega⟩
    · rw [if_neg c1]
      by_cases c2 : v = 2
      · rw [if_pos c2, if_pos (by omega)]
        refine ⟨_, _, rfl, ?_⟩
        rw [ByteArray.size_append]
        have : (⟨#[120, 120, 120, 120, 120, 120, 120, 120, 120, 120, 120, 120]⟩ : ByteArray).size = 12 := by decide
        omega
      · rw [if_neg c2]
        exact ⟨_, _, rfl, by omega⟩
/-- One half's syllables: whatever follows them comes to something, so does the whole. -/
theorem verse_row (x4 : Int) {l : List Int} (h : Bytes l) (x5 : Int) (hx : x5 ≤ 8) (d : Nat) : ∀ (k : Nat) (s : ByteArray) (x6 p : Int), x6 + d = x5 → 0 ≤ x6 → 0 ≤ p ∧ p + d ≤ 900 → s.size + d ≤ 80 →
    (∀ (s' : ByteArray) (p' : Int), s'.size ≤ s.size + d → p ≤ p' → p' ≤ p + d → ∃ r q, spec_l91Verse.l1 (k + 1) s' x4 x5 x5 l p' = some (r, q) ∧ r.size ≤ 200) →
    ∃ r q, spec_l91Verse.l1 (k + 1 + d) s x4 x5 x6 l p = some (r, q) ∧ r.size ≤ 200 := by
  induction d with
  | zero =>
    intro k s x6 p hd h0 hp hs H
    obtain rfl : x6 = x5 := by omega
    exact H s p (by omega) (by omega) (by omega)
  | succ d ih =>
    intro k s x6 p hd h0 hp hs H
    rw [show k + 1 + (d + 1) = (k + 1 + d) + 1 by omega]
    simp only [spec_l91Verse.l1]
    rw [if_pos (by omega)]
    obtain ⟨t, ht, e2⟩ := of_ok (k + d) h p (by omega) [⟨#[120]⟩, ⟨#[47]⟩, ⟨#[120]⟩] (by decide) (by decide)
    rw [show k + d + 1 = k + 1 + d by omega] at e2
    rw [e2]
    simp only [bs]
    have hz : t.size = 1 := by
      simp at ht
      rcases ht with rfl | rfl | rfl <;> decide
    rw [if_pos (by omega), w64 (by omega) (by omega)]
    exact ih k (s ++ t) (x6 + 1) (p + 1) (by omega) (by omega) (by omega) (by rw [ByteArray.size_append]; omega) (fun s' p' h1 h2 h3 => H s' p' (by rw [ByteArray.size_append] at h1; omega) (by omega) (by omega))
theorem verse_draw {l : List Int} (h : Bytes l) (k : Nat) : ∃ r q, spec_l91Verse.f (k + 40) l 0 = some (r, q) ∧ r.size ≤ 200 := by
  unfold spec_l91Verse.f
  -- the second half, with enough rounds
  have two : ∀ (n : Nat) (s : ByteArray) (p : Int), 0 ≤ p ∧ p ≤ 500 → s.size ≤ 40 → ∃ r q, spec_l91Verse.l0 (n + 14) s 1 l p = some (r, q) ∧ r.size ≤ 200 := by
    intro n s p hp hs
    rw [show n + 14 = (n + 13) + 1 by omega]
    simp only [spec_l91Verse.l0]
    rw [if_pos (by omega)]
    obtain ⟨v, e, h0, h1⟩ := pick_ok (n + 12) h p 8 (by omega) (by omega)
    rw [show n + 12 + 1 = n + 13 by omega] at e
    rw [e]
    simp only [bs]
    rw [w64 (by omega) (by omega)]
    obtain ⟨d, hd⟩ : ∃ d : Nat, (d : Int) = 1 + v := ⟨(1 + v).toNat, by omega⟩
    have := verse_row 1 h (1 + v) (by omega) d (n + 12 - d) s 0 (p + 1) (by omega) (by omega) (by omega) (by omega) (by
      intro s' p' g1 g2 g3
      simp only [spec_l91Verse.l1]
      rw [if_neg (by omega), if_neg (by omega), w64 (by omega) (by omega)]
      obtain ⟨m, hm⟩ : ∃ m, n + 12 - d = m + 2 := ⟨n + 10 - d, by omega⟩
      rw [hm]
      exact verse_end m h s' p' (by omega) (by omega))
    rw [show n + 12 - d + 1 + d = n + 13 by omega] at this
    exact this
  rw [show k + 40 = (k + 39) + 1 by omega]
  simp only [spec_l91Verse.l0]
  rw [if_pos (by omega)]
  obtain ⟨v, e, h0, h1⟩ := pick_ok (k + 38) h 0 8 (by omega) (by omega)
  rw [show k + 38 + 1 = k + 39 by omega] at e
  rw [e]
  simp only [bs]
  rw [w64 (by omega) (by omega)]
  obtain ⟨d, hd⟩ : ∃ d : Nat, (d : Int) = 1 + v := ⟨(1 + v).toNat, by omega⟩
  have := verse_row 0 h (1 + v) (by omega) d (k + 38 - d) ⟨#[]⟩ 0 (0 + 1) (by omega) (by omega) (by omega) (by have : (⟨#[]⟩ : ByteArray).size = 0 := rfl; omega) (by
    intro s' p' g1 g2 g3
    have g4 : s'.size ≤ d := by
      have : (⟨#[]⟩ : ByteArray).size = 0 := rfl
      omega
    simp only [spec_l91Verse.l1]
    rw [if_neg (by omega), if_pos trivial, if_pos (by omega), w64 (by omega) (by omega)]
    obtain ⟨m, hm⟩ : ∃ m, k + 38 - d = m + 14 := ⟨k + 24 - d, by omega⟩
    rw [hm]
    have hb : (⟨#[124]⟩ : ByteArray).size = 1 := rfl
    exact two m _ p' (by omega) (by rw [ByteArray.size_append]; omega))
  rw [show k + 38 - d + 1 + d = k + 39 by omega] at this
  exact this
theorem sameI_loop (l : List Int) (hl : l.length ≤ 4000000) (d : Nat) : ∀ (k n : Nat), n + d = l.length → d < k → laws_sameInts.l0 k l l (n : Int) = some true := by
  induction d with
  | zero =>
    intro k n hn hk
    obtain ⟨k, rfl⟩ := round hk
    simp only [laws_sameInts.l0]
    rw [if_neg (by omega)]
  | succ d ih =>
    intro k n hn hk
    obtain ⟨k, rfl⟩ := round hk
    simp only [laws_sameInts.l0]
    rw [if_pos (by omega), if_pos (by omega), if_pos (by omega), if_pos trivial, w_succ (by omega), ih k (n + 1) (by omega) (by omega)]
theorem sameI (l : List Int) (hl : l.length ≤ 4000000) (k : Nat) (hk : l.length < k) : laws_sameInts.f k l l = some true := by
  unfold laws_sameInts.f
  rw [if_pos rfl]
  exact sameI_loop l hl l.length k 0 (by omega) hk
theorem accs_append : ∀ (l m : List UInt8) (n : Int), accs (l ++ m) n = accs l n ++ accs m (n + l.length)
  | [], m, n => by simp [accs]
  | c :: l, m, n => by
    have e : n + 1 + (l.length : Int) = n + ((c :: l).length : Int) := by simp; omega
    simp only [List.cons_append, accs, accs_append l m (n + 1), e]
    split <;> simp
theorem accs_mem : ∀ (l : List UInt8) (n x : Int), x ∈ accs l n → n ≤ x ∧ x < n + l.length
  | [], n, x, h => by simp [accs] at h
  | c :: l, n, x, h => by
    simp only [accs] at h
    simp only [List.length_cons]
    have go : x ∈ accs l (n + 1) → n ≤ x ∧ x < n + ((l.length + 1 : Nat) : Int) := fun hh => by
      have := accs_mem l (n + 1) x hh
      omega
    split at h
    · rcases List.mem_cons.1 h with h | h
      · omega
      · exact go h
    · exact go h
theorem accs_last (s : ByteArray) (n : Int) : ∀ m : Nat, m ≤ s.size → (Lib.lastIdx s 47 m = -1 → accs ((L s).take m) n = []) ∧ (Lib.lastIdx s 47 m ≠ -1 → ∃ pre, accs ((L s).take m) n = pre ++ [n + Lib.lastIdx s 47 m]) := by
  intro m
  induction m with
  | zero => intro _; exact ⟨fun _ => rfl, fun h => absurd rfl h⟩
  | succ m ih =>
    intro hm
    obtain ⟨c, hc, _⟩ := drop_c (L s) m (by rw [← L_size]; omega)
    obtain ⟨i1, i2⟩ := ih (by omega)
    have hlen : ((L s).take m).length = m := by rw [List.length_take, ← L_size]; omega
    rw [List.take_add_one, hc]
    show (_ → accs ((L s).take m ++ [c]) n = []) ∧ (_ → ∃ pre, accs ((L s).take m ++ [c]) n = _)
    rw [accs_append, hlen]
    by_cases h : c = 47
    · have e : Lib.lastIdx s 47 (m + 1) = (m : Int) := by
        rw [Lib.lastIdx_hit s 47 m (by rw [data_get s m c hc, h]; decide)]
      rw [e]
      refine ⟨fun g => by omega, fun _ => ⟨accs ((L s).take m) n, ?_⟩⟩
      simp [accs, h]
    · have e : Lib.lastIdx s 47 (m + 1) = Lib.lastIdx s 47 m := by
        rw [Lib.lastIdx_miss s 47 m (by rw [data_get s m c hc]; exact fun g => h ((is_ac c).1 g))]
      have e2 : accs [c] (n + (m : Int)) = [] := by simp [accs, h]
      rw [e, e2, List.append_nil]
      exact ⟨i1, i2⟩
theorem rd_last (pre : List Int) (x : Int) : rd (pre ++ [x]) (((pre ++ [x]).length : Int) - 1) = x := by
  unfold rd
  rw [show ((((pre ++ [x]).length : Int) - 1)).toNat = pre.length by simp]
  simp
theorem rd_mem (l : List Int) (n : Int) (h0 : 0 ≤ n) (h : n < l.length) : rd l n ∈ l := by
  unfold rd
  rw [List.getD_eq_getElem?_getD, List.getElem?_eq_getElem (by omega)]
  exact List.getElem_mem _
/-- The last accent stands in the second half, or that half has none. -/
theorem acc_last (a b : ByteArray) (h : accs (L a ++ L b) 0 ≠ []) :
    (Lib.lastIndexByte b 47 = -1 ∧ rd (accs (L a ++ L b) 0) (((accs (L a ++ L b) 0).length : Int) - 1) < a.size) ∨
    (0 ≤ Lib.lastIndexByte b 47 ∧ rd (accs (L a ++ L b) 0) (((accs (L a ++ L b) 0).length : Int) - 1) = a.size + Lib.lastIndexByte b 47) := by
  have hb := last_bd b 47 b.size
  have hl := accs_last b (0 + ((L a).length : Int)) b.size (Nat.le_refl _)
  rw [show (L b).take b.size = L b by rw [L_size, List.take_length]] at hl
  have hlen : 0 < (accs (L a ++ L b) 0).length := List.length_pos_iff.2 h
  have hm := rd_mem (accs (L a ++ L b) 0) (((accs (L a ++ L b) 0).length : Int) - 1) (by omega) (by omega)
  unfold Lib.lastIndexByte
  by_cases e : Lib.lastIdx b 47 b.size = -1
  · left
    refine ⟨e, ?_⟩
    have e2 := hl.1 e
    rw [accs_append, e2, List.append_nil] at hm ⊢
    have := accs_mem _ _ _ hm
    have hza := L_size a
    omega
  · right
    refine ⟨by omega, ?_⟩
    obtain ⟨pre, e2⟩ := hl.2 e
    rw [accs_append, e2, ← List.append_assoc, rd_last]
    have hza := L_size a
    omega
theorem acc_fin (s a b : ByteArray) (out : List Int) (hs : s.size ≤ 1000) (hv : vv s = true) (hc : cutB s = (a, b, true)) (hn : a.size + b.size ≤ 20) (ho : out = accs (L a ++ L b) 0) (hne : out ≠ []) (k : Nat) :
    laws_FnVerseAccents.l0 (k + 1) s out a b true (a ++ b) (out.length : Int) ((a ++ b).size : Int) = some true := by
  have hlen : 0 < out.length := List.length_pos_iff.2 hne
  have hlen2 : out.length ≤ 20 := by
    rw [ho]
    have := accs_len (L a ++ L b) 0
    rw [List.length_append, ← L_size, ← L_size] at this
    omega
  have hbd := last_bd b 47 b.size
  have hl := acc_last a b (ho ▸ hne)
  rw [← ho] at hl
  have hsz : (a ++ b).size = a.size + b.size := ByteArray.size_append
  have hw : wrap64 ((out.length : Int) - 1) = (out.length : Int) - 1 := w64 (by omega) (by omega)
  have hw2 : wrap64 (((a ++ b).size : Int) - 1) = ((a ++ b).size : Int) - 1 := w64 (by omega) (by omega)
  simp only [laws_FnVerseAccents.l0]
  rw [if_neg (by omega), implEnds s (by omega), if_pos hv, hc]
  simp only [bs, if_true, hw, hw2]
  rw [if_pos (by omega), if_pos (by omega)]
  generalize rd out ((out.length : Int) - 1) = r at hl ⊢
  have he : endV b = b.size - 1 - Lib.lastIndexByte b 47 := rfl
  have hbd2 : -1 ≤ Lib.lastIndexByte b 47 ∧ Lib.lastIndexByte b 47 < b.size := hbd
  generalize Lib.lastIndexByte b 47 = i at hl he hbd2
  rw [he]
  rcases hl with ⟨h1, h2⟩ | ⟨h1, h2⟩
  · rw [if_pos h2, if_pos (by omega)]
  · rw [if_neg (by omega), if_pos (by omega), w64 (by omega) (by omega)]
    congr 1
    rw [beq_iff_eq]
    omega
theorem acc_loop (s a b : ByteArray) (out : List Int) (hs : s.size ≤ 1000) (hv : vv s = true) (hc : cutB s = (a, b, true)) (hn : a.size + b.size ≤ 20) (ho : out = accs (L a ++ L b) 0) (hne : out ≠ []) (d : Nat) :
    ∀ (k n m : Nat), n + d = (a ++ b).size → d < k → m ≤ out.length → out.drop m = accs ((L (a ++ b)).drop n) n → laws_FnVerseAccents.l0 k s out a b true (a ++ b) (m : Int) (n : Int) = some true := by
  have hsz : (a ++ b).size = a.size + b.size := ByteArray.size_append
  induction d with
  | zero =>
    intro k n m hn' hk hm hd
    obtain ⟨k, rfl⟩ := round hk
    rw [show (L (a ++ b)).drop n = [] from List.drop_eq_nil_of_le (by rw [← L_size]; omega)] at hd
    have hml : m = out.length := by
      have := List.drop_eq_nil_iff.1 hd
      omega
    rw [hml, show n = (a ++ b).size by omega]
    exact acc_fin s a b out hs hv hc hn ho hne k
  | succ d ih =>
    intro k n m hn' hk hm hd
    obtain ⟨k, rfl⟩ := round hk
    obtain ⟨c, hcc, hdd⟩ := drop_c (L (a ++ b)) n (by rw [← L_size]; omega)
    simp only [laws_FnVerseAccents.l0]
    rw [if_pos (by omega), if_pos (by omega), bt_n _ n c hcc, w_succ (n := n) (by omega)]
    rw [hdd] at hd
    simp only [accs] at hd
    by_cases h : c = 47
    · rw [if_pos h] at hd
      have hlt : m < out.length := by
        rcases Nat.lt_or_ge m out.length with g | g
        · exact g
        · rw [List.drop_eq_nil_of_le g] at hd; cases hd
      rw [dropI out m hlt] at hd
      injection hd with hd1 hd2
      rw [if_pos ((is_ac c).2 h), if_neg (by omega), if_pos (by omega), if_pos (by omega), rd_n, hd1, if_pos rfl, w_succ (n := m) (by
        have := accs_len (L a ++ L b) 0
        rw [← ho, List.length_append, ← L_size, ← L_size] at this
        omega)]
      exact ih k (n + 1) (m + 1) (by omega) (by omega) (by omega) hd2
    · rw [if_neg h] at hd
      rw [if_neg (fun e => h ((is_ac c).1 e))]
      exact ih k (n + 1) m (by omega) (by omega) hm hd
theorem acc_core (k : Nat) (s : ByteArray) (hs : s.size ≤ 1000) (hk : 1002 ≤ k) : laws_FnVerseAccents.j0 (k + 1) s (accV s) (accV s) (((accV s).length : Int) == 0) = some true := by
  simp only [laws_FnVerseAccents.j0]
  have hal := accV_len s
  by_cases he : accV s = []
  · rw [he, if_pos (by rfl), sameI _ (by simp) k (by simp; omega)]
    rfl
  · have hlen : 0 < (accV s).length := List.length_pos_iff.2 he
    rw [if_neg (by simpa using he)]
    by_cases hv : vv s = true
    · obtain ⟨h1, h2, h3, h4⟩ := vv_parts s hv
      have hz := (cut_sizes s).1 h1
      have hg : accV s = accs (L (cutB s).1 ++ L (cutB s).2.1) 0 := by unfold accV; rw [if_pos hv]
      have hcc : cutB s = ((cutB s).1, (cutB s).2.1, true) := by rw [← h1]
      rw [implHalves s (by omega), if_pos hv]
      simp only [bs]
      rw [if_pos (by omega)]
      generalize (cutB s).1 = a at *
      generalize (cutB s).2.1 = b at *
      have hsz : (a ++ b).size = a.size + b.size := ByteArray.size_append
      exact acc_loop s a b (accV s) hs hv hcc h2 hg he (a ++ b).size k 0 0 (by omega) (by omega) (by omega) (by rw [List.drop_zero, List.drop_zero, L_append]; exact hg)
    · exact absurd (by unfold accV; rw [if_neg hv]) he
theorem FnVerseAccents (l : List Int) (_ : l.length ≤ 9223372036854775807) (hw : ∀ x ∈ l, (Lit.int .u8 x).wf = true) : ∃ k, laws_FnVerseAccents.f k l = some true := by
  refine ⟨1300, ?_⟩
  unfold laws_FnVerseAccents.f spec_DrawVerseAccents.f
  by_cases h : (l.length : Int) > 1048576
  · rw [if_pos h]
  rw [if_neg h]
  obtain ⟨l', e, hb⟩ := open_ok l hw
  obtain ⟨s, q, e2, hs⟩ := verse_draw hb 1260
  rw [e]
  simp only [bs]
  rw [e2]
  simp only [bs]
  have hal := accV_len s
  rw [implAcc s (by omega) _ (by omega), specAcc s (by omega) _ (by omega)]
  simp only [bs]
  rw [sameI _ (by omega) _ (by omega)]
  simp only [bs, if_true]
  exact acc_core 1299 s (by omega) (by omega)
end Go.Proofs.YtocpicgepgphoaaDoor.ZA
