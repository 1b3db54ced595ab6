/- The plain laws: what the Lean functions of the walks come to. No program and no memory in sight. No condition beyond what each theorem says. -/
import Derived.Test.YtocpicgepgphoaaDoorXAx1
import Derived.Test.YtocpicgepgphoaaDoorXAx9
import Derived.Test.YtocpicgepgphoaaDoorXAx10
import Derived.Test.YtocpicgepgphoaaDoorXAx11
import Derived.Test.YtocpicgepgphoaaDoorXAx12
import Derived.Lib.IndexLaws
import Derived.Lib.IndexBytes
namespace Go.Proofs.YtocpicgepgphoaaDoor.ZA
open Go.RowKit Go.Proofs.YtocpicgepgphoaaDoor.XA Go.Proofs.YtocpicgepgphoaaDoorW.PrintWords Go.Proofs.YtocpicgepgphoaaDoorW.PrintLast
set_option linter.unusedVariables false
set_option linter.unusedSimpArgs false
theorem w64 {x : Int} (h0 : -9223372036854775808 ≤ x) (h1 : x < 9223372036854775808) : wrap64 x = x := by unfold wrap64; omega
/-- Not by rfl: so simp leaves a proof, and the kernel need not compare the two sides by running them. -/
theorem bs {α β : Type} (a : α) (f : α → Option β) : (some a).bind f = f a := by
  have h : ∀ o : Option α, o = some a → o.bind f = f a := by
    rintro _ rfl
    rfl
  exact h _ rfl
abbrev L (s : ByteArray) : List UInt8 := s.data.toList
theorem L_size (s : ByteArray) : s.size = (L s).length := Lib.size_eq s
theorem ba_ext {x y : ByteArray} (h : L x = L y) : x = y := by
  obtain ⟨⟨a⟩⟩ := x
  obtain ⟨⟨b⟩⟩ := y
  simp only [L] at h
  rw [h]
theorem L_mk (l : List UInt8) : L ⟨l.toArray⟩ = l := by simp [L]
theorem mk_L (s : ByteArray) : (⟨(L s).toArray⟩ : ByteArray) = s := ba_ext (L_mk _)
theorem bt_n (s : ByteArray) (n : Nat) (c : UInt8) (h : (L s)[n]? = some c) : bt s (n : Int) = (c.toNat : Int) := by
  have hn : n < s.size := by rw [L_size]; exact (List.getElem?_eq_some_iff.1 h).1
  unfold bt
  rw [dif_pos (by simpa using hn)]
  have e : s[((n : Int).toNat)]'(by simpa using hn) = c := by
    have h2 := (List.getElem?_eq_some_iff.1 h).2
    rw [← h2]
    rfl
  rw [e]
theorem drop_c (l : List UInt8) (n : Nat) (h : n < l.length) : ∃ c, l[n]? = some c ∧ l.drop n = c :: l.drop (n + 1) :=
  ⟨l[n], List.getElem?_eq_getElem h, List.drop_eq_getElem_cons h⟩
theorem w_succ {n : Nat} (h : n < 4611686018427387904) : wrap64 ((n : Int) + 1) = ((n + 1 : Nat) : Int) := by
  rw [w64 (by omega) (by omega)]; omega
theorem round {k d : Nat} (h : d < k) : ∃ m, k = m + 1 := ⟨k - 1, by omega⟩
theorem u8_of {c : UInt8} {k : Nat} (hk : k < 256) : ((c.toNat : Int) = (k : Int)) ↔ c = UInt8.ofNat k := by
  constructor
  · intro h
    apply UInt8.toNat_inj.1
    rw [UInt8.toNat_ofNat_of_lt' hk]
    omega
  · rintro rfl
    rw [UInt8.toNat_ofNat_of_lt' hk]
theorem toList_L (s : ByteArray) : s.toList = L s := Lib.toList_data s
theorem is_bar (c : UInt8) : ((c.toNat : Int) = 124) ↔ c = 124 := u8_of (k := 124) (by omega)
theorem is_x (c : UInt8) : ((c.toNat : Int) = 120) ↔ c = 120 := u8_of (k := 120) (by omega)
theorem is_ac (c : UInt8) : ((c.toNat : Int) = 47) ↔ c = 47 := u8_of (k := 47) (by omega)
theorem halves_loop (s : ByteArray) (hs : s.size ≤ 1100000) (d : Nat) : ∀ k n : Nat, n + d = s.size → d < k →
    spec_l4Halves.l0 k s (n : Int) = some (if Lib.indexByte ((L s).drop n) 124 = -1 then (s, ⟨#[]⟩) else (s.extract 0 (n + (Lib.indexByte ((L s).drop n) 124).toNat), s.extract (n + (Lib.indexByte ((L s).drop n) 124).toNat + 1) s.size)) := by
  induction d with
  | zero =>
    intro k n hn hk
    obtain ⟨k, rfl⟩ := round hk
    simp only [spec_l4Halves.l0]
    rw [if_neg (by omega), show (L s).drop n = [] from List.drop_eq_nil_of_le (by rw [← L_size]; omega)]
    rfl
  | succ d ih =>
    intro k n hn hk
    obtain ⟨k, rfl⟩ := round hk
    obtain ⟨c, hc, hd⟩ := drop_c (L s) n (by rw [← L_size]; omega)
    simp only [spec_l4Halves.l0]
    rw [if_pos (by omega), if_pos (by omega), bt_n s n c hc, w_succ (by omega), ih k (n + 1) (by omega) (by omega), hd]
    by_cases h : c = 124
    · subst h
      rw [if_pos (by decide), if_pos (by omega), if_pos (by omega), if_pos (by omega)]
      rw [show Lib.indexByte (124 :: (L s).drop (n + 1)) 124 = 0 from rfl, if_neg (by decide)]
      rfl
    · rw [if_neg (fun e => h ((is_bar c).1 e))]
      have e : Lib.indexByte (c :: (L s).drop (n + 1)) 124 = if Lib.indexByte ((L s).drop (n + 1)) 124 = -1 then -1 else Lib.indexByte ((L s).drop (n + 1)) 124 + 1 := by
        show (if (c == 124) = true then (0 : Int) else if (Lib.indexByte ((L s).drop (n + 1)) 124 == -1) = true then -1 else Lib.indexByte ((L s).drop (n + 1)) 124 + 1) = _
        rw [if_neg (by simpa using h)]
        simp
      rw [e]
      by_cases h2 : Lib.indexByte ((L s).drop (n + 1)) 124 = -1
      · rw [if_pos h2, if_pos h2, if_pos rfl]
      · have hge := Lib.indexByte_ge ((L s).drop (n + 1)) 124
        rw [if_neg h2, if_neg h2, if_neg (by omega)]
        have e2 : n + (Lib.indexByte ((L s).drop (n + 1)) 124 + 1).toNat = n + 1 + (Lib.indexByte ((L s).drop (n + 1)) 124).toNat := by omega
        rw [e2]
/-- What stands ahead of and behind the first bar. -/
def cutB (s : ByteArray) : ByteArray × ByteArray × Bool := (⟨(Lib.cut (L s) [124]).1.toArray⟩, ⟨(Lib.cut (L s) [124]).2.1.toArray⟩, (Lib.cut (L s) [124]).2.2)
theorem cutB_eq (s : ByteArray) : cutB s = if Lib.indexByte (L s) 124 = -1 then (s, ⟨#[]⟩, false) else (s.extract 0 (Lib.indexByte (L s) 124).toNat, s.extract ((Lib.indexByte (L s) 124).toNat + 1) s.size, true) := by
  unfold cutB Lib.cut
  rw [Lib.index_one]
  have hge := Lib.indexByte_ge (L s) 124
  by_cases h : Lib.indexByte (L s) 124 = -1
  · rw [if_neg (by omega), if_pos h, mk_L]
  · rw [if_pos (by omega), if_neg h]
    have e1 : (⟨((L s).take (Lib.indexByte (L s) 124).toNat).toArray⟩ : ByteArray) = s.extract 0 (Lib.indexByte (L s) 124).toNat := ba_ext (by rw [L_mk]; show _ = (s.extract 0 _).data.toList; rw [Lib.extract_data]; simp)
    have e2 : (⟨((L s).drop ((Lib.indexByte (L s) 124).toNat + [(124 : UInt8)].length)).toArray⟩ : ByteArray) = s.extract ((Lib.indexByte (L s) 124).toNat + 1) s.size := ba_ext (by rw [L_mk]; show _ = (s.extract _ s.size).data.toList; rw [Lib.extract_to_end]; rfl)
    rw [e1, e2]
theorem specHalves (s : ByteArray) (hs : s.size ≤ 1100000) (k : Nat) (hk : s.size < k) : spec_l4Halves.f k s = some ((cutB s).1, (cutB s).2.1) := by
  unfold spec_l4Halves.f
  have := halves_loop s hs s.size k 0 (by omega) hk
  rw [show ((0 : Nat) : Int) = 0 from rfl] at this
  rw [this, cutB_eq, List.drop_zero, Nat.zero_add]
  split <;> rfl
theorem cut_sizes (s : ByteArray) : ((cutB s).2.2 = true → (cutB s).1.size + (cutB s).2.1.size + 1 = s.size) ∧ ((cutB s).2.2 = false → (cutB s).2.1 = ⟨#[]⟩) ∧ (cutB s).1.size ≤ s.size ∧ (cutB s).2.1.size ≤ s.size := by
  rw [cutB_eq]
  have hge := Lib.indexByte_ge (L s) 124
  by_cases h : Lib.indexByte (L s) 124 = -1
  · rw [if_pos h]
    exact ⟨fun e => by simp at e, fun _ => rfl, Nat.le_refl _, Nat.zero_le _⟩
  · rw [if_neg h]
    obtain ⟨i, hi⟩ : ∃ i : Nat, Lib.indexByte (L s) 124 = i := ⟨(Lib.indexByte (L s) 124).toNat, by omega⟩
    have h2 := (Lib.indexByte_some hi).1
    have h3 := (List.getElem?_eq_some_iff.1 h2).1
    rw [← L_size] at h3
    rw [hi]
    simp only [Int.toNat_natCast, ByteArray.size_extract]
    refine ⟨fun _ => by omega, fun e => by simp at e, by omega, by omega⟩
/-- One half of a verse. -/
def hvB (b : ByteArray) : Bool := (L b).all (fun c => c == 120 || c == 47) && decide (0 < b.size)
theorem half_loop (s : ByteArray) (hs : s.size ≤ 1100000) (d : Nat) : ∀ k n : Nat, n + d = s.size → d < k →
    spec_l4Half.l0 k s (n : Int) = some (((L s).drop n).all (fun c => c == 120 || c == 47) && decide (0 < s.size)) := by
  induction d with
  | zero =>
    intro k n hn hk
    obtain ⟨k, rfl⟩ := round hk
    simp only [spec_l4Half.l0]
    rw [if_neg (by omega), show (L s).drop n = [] from List.drop_eq_nil_of_le (by rw [← L_size]; omega)]
    simp
  | succ d ih =>
    intro k n hn hk
    obtain ⟨k, rfl⟩ := round hk
    obtain ⟨c, hc, hd⟩ := drop_c (L s) n (by rw [← L_size]; omega)
    simp only [spec_l4Half.l0]
    rw [if_pos (by omega), if_pos (by omega), bt_n s n c hc, w_succ (by omega), ih k (n + 1) (by omega) (by omega), hd, List.all_cons]
    by_cases h : c = 120
    · subst h
      rw [if_pos (by decide)]
      simp
    · rw [if_neg (fun e => h ((is_x c).1 e))]
      by_cases h2 : c = 47
      · subst h2
        rw [if_pos (by decide)]
        simp
      · rw [if_neg (fun e => h2 ((is_ac c).1 e))]
        simp [h, h2]
theorem specHalf (s : ByteArray) (hs : s.size ≤ 1100000) (k : Nat) (hk : s.size < k) : spec_l4Half.f k s = some (hvB s) := by
  unfold spec_l4Half.f hvB
  have := half_loop s hs s.size k 0 (by omega) hk
  rw [show ((0 : Nat) : Int) = 0 from rfl] at this
  rw [this, List.drop_zero]
theorem dw_nil {α : Type} (p : α → Bool) : ∀ m : List α, m.dropWhile p = [] ↔ ∀ c ∈ m, p c = true
  | [] => by simp
  | a :: m => by
    rw [List.dropWhile_cons]
    by_cases h : p a = true
    · rw [if_pos h, dw_nil p m]
      simp [h]
    · rw [if_neg h]
      simp [h]
theorem dw_cons {α : Type} (p : α → Bool) : ∀ (l : List α) (a : α) (m : List α), l.dropWhile p = a :: m → p a = false
  | [], a, m, h => by simp at h
  | b :: l, a, m, h => by
    rw [List.dropWhile_cons] at h
    by_cases hb : p b = true
    · rw [if_pos hb] at h
      exact dw_cons p l a m h
    · rw [if_neg hb] at h
      injection h with h1 _
      rw [← h1]
      simpa using hb
theorem trim_nil (l cs : List UInt8) : Lib.trimS l cs = [] ↔ ∀ c ∈ l, cs.contains c = true := by
  have hr : ∀ m : List UInt8, m.dropWhile (cs.contains ·) = [] ↔ ∀ c ∈ m, cs.contains c = true := fun m => dw_nil _ m
  unfold Lib.trimS Lib.trimLeftS
  rw [hr]
  unfold Lib.trimRightS
  constructor
  · intro h
    have h1 : l.reverse.dropWhile (cs.contains ·) = [] := by
      cases hm : l.reverse.dropWhile (cs.contains ·) with
      | nil => rfl
      | cons a m =>
        have h2 : cs.contains a = false := dw_cons (cs.contains ·) l.reverse a m hm
        have := h a (by rw [hm]; simp)
        rw [h2] at this
        cases this
    intro c hc
    exact (hr l.reverse).1 h1 c (by simpa using hc)
  · intro h c hc
    have : c ∈ l.reverse.dropWhile (cs.contains ·) := by simpa using hc
    exact h c (by simpa using (List.dropWhile_sublist _).subset this)
theorem implHalf (b : ByteArray) (hs : b.size ≤ 1100000) : impl_halfValid.f b = some (hvB b) := by
  unfold impl_halfValid.f hvB strings_Trim.f
  rw [toList_L]
  by_cases h : L b = []
  · rw [if_pos h]
    have : b.size = 0 := by rw [L_size, h]; rfl
    rw [this]
    simp
  · rw [if_neg h, if_pos ⟨by omega, by decide, by decide⟩]
    simp only [Option.bind_some, toList_L, L_mk]
    have h0 : 0 < b.size := by rw [L_size]; exact List.length_pos_iff.2 h
    rw [decide_eq_true h0, Bool.and_true]
    congr 1
    rw [Bool.eq_iff_iff, beq_iff_eq, trim_nil, List.all_eq_true]
    constructor
    · intro g c hc
      have := g c hc
      simpa using this
    · intro g c hc
      have := g c hc
      simpa using this
/-- A text is a verse. -/
def vv (s : ByteArray) : Bool := (cutB s).2.2 && (decide ((cutB s).1.size + (cutB s).2.1.size ≤ 20) && (hvB (cutB s).1 && hvB (cutB s).2.1))
theorem implHalves (s : ByteArray) (hs : s.size ≤ 1100000) : impl_VerseHalves.f s = some (if vv s = true then ((cutB s).1, (cutB s).2.1, true) else (⟨#[]⟩, ⟨#[]⟩, false)) := by
  have hz := cut_sizes s
  unfold impl_VerseHalves.f strings_Cut.f vv
  rw [if_pos (by omega)]
  show (some (cutB s)).bind _ = _
  simp only [Option.bind_some]
  rw [implHalf _ (by omega), implHalf _ (by omega), w64 (by omega) (by omega)]
  cases (cutB s).2.2 with
  | false => simp
  | true =>
    rw [if_pos rfl]
    by_cases h : (cutB s).1.size + (cutB s).2.1.size ≤ 20
    · rw [if_neg (by omega), decide_eq_true h]
      cases hvB (cutB s).1 <;> cases hvB (cutB s).2.1 <;> simp
    · rw [if_pos (by omega), decide_eq_false h]
      simp
theorem specValidV (s : ByteArray) (hs : s.size ≤ 1100000) (k : Nat) (hk : s.size < k) : spec_VerseValid.f k s = some (vv s) := by
  have hz := cut_sizes s
  unfold spec_VerseValid.f vv
  rw [specHalves s hs k hk]
  simp only [Option.bind_some]
  rw [specHalf _ (by omega) _ (by omega), specHalf _ (by omega) _ (by omega), w64 (by omega) (by omega)]
  cases hc : (cutB s).2.2 with
  | false =>
    rw [hz.2.1 hc]
    have : hvB ⟨#[]⟩ = false := by decide
    rw [this]
    cases hvB (cutB s).1 <;> simp
  | true =>
    cases hvB (cutB s).1 <;> cases hvB (cutB s).2.1 <;> simp
    omega
theorem vv_cut (s : ByteArray) (h : vv s = true) : (cutB s).2.2 = true := by
  unfold vv at h
  generalize (cutB s).2.2 = a at h ⊢
  cases a with
  | false => simp at h
  | true => rfl
theorem last_bd (s : ByteArray) (c : Int) : ∀ m : Nat, -1 ≤ Lib.lastIdx s c m ∧ Lib.lastIdx s c m < m
  | 0 => by unfold Lib.lastIdx; omega
  | m + 1 => by
    have := last_bd s c m
    unfold Lib.lastIdx
    split <;> omega
theorem data_get (s : ByteArray) (n : Nat) (c : UInt8) (h : (L s)[n]? = some c) : s.data[n]! = c := by
  have h1 : s.data[n]? = some c := by simpa [L] using h
  rw [getElem!_def, h1]
theorem end_loop (s : ByteArray) (hs : s.size ≤ 1100000) (hv : (L s).all (fun c => c == 120 || c == 47) = true) : ∀ (m k : Nat) (cn : Int), m ≤ s.size → m < k → 0 ≤ cn → cn + m ≤ s.size →
    spec_l4End.l0 k s cn ((m : Int) - 1) = some (cn + (m - 1 - Lib.lastIdx s 47 m)) := by
  intro m
  induction m with
  | zero =>
    intro k cn hm hk h0 h1
    obtain ⟨k, rfl⟩ := round hk
    simp only [spec_l4End.l0]
    rw [if_neg (by omega)]
    simp [Lib.lastIdx]
  | succ m ih =>
    intro k cn hm hk h0 h1
    obtain ⟨k, rfl⟩ := round hk
    obtain ⟨c, hc, _⟩ := drop_c (L s) m (by rw [← L_size]; omega)
    have hm2 : c = 120 ∨ c = 47 := by
      have := List.all_eq_true.1 hv c (List.mem_of_getElem? hc)
      simpa using this
    simp only [spec_l4End.l0]
    rw [show ((m + 1 : Nat) : Int) - 1 = (m : Int) by omega, if_pos (by omega), if_pos (by omega), if_pos (by omega), bt_n s m c hc]
    have hb := last_bd s 47 m
    rcases hm2 with h | h
    · rw [if_pos ((is_x c).2 h), w64 (x := cn + 1) (by omega) (by omega), w64 (x := (m : Int) - 1) (by omega) (by omega), ih k (cn + 1) (by omega) (by omega) (by omega) (by omega)]
      rw [Lib.lastIdx_miss s 47 m (by rw [data_get s m c hc, h]; decide)]
      congr 1
      omega
    · rw [if_neg (fun e => by rw [h] at e; revert e; decide), Lib.lastIdx_hit s 47 m (by rw [data_get s m c hc, h]; decide)]
      congr 1
      omega
/-- The number of weak syllables behind the last accent of a half. -/
def endV (b : ByteArray) : Int := b.size - 1 - Lib.lastIndexByte b 47
theorem implEnd (b : ByteArray) (hs : b.size ≤ 1100000) : impl_weakBehind.f b = some (endV b) := by
  have hb := last_bd b 47 b.size
  unfold impl_weakBehind.f strings_LastIndexByte.f endV Lib.lastIndexByte
  rw [if_pos (by omega)]
  simp only [bs]
  rw [w64 (x := (b.size : Int) - 1) (by omega) (by omega), w64 (by omega) (by omega)]
theorem specEnd (b : ByteArray) (hs : b.size ≤ 1100000) (hv : hvB b = true) (k : Nat) (hk : b.size < k) : spec_l4End.f k b = some (endV b) := by
  unfold spec_l4End.f endV Lib.lastIndexByte
  have h1 : (L b).all (fun c => c == 120 || c == 47) = true := by
    unfold hvB at hv
    rw [Bool.and_eq_true] at hv
    exact hv.1
  rw [w64 (by omega) (by omega), end_loop b hs h1 b.size k 0 (by omega) hk (by omega) (by omega)]
  congr 1
  omega
theorem vv_parts (s : ByteArray) (h : vv s = true) : (cutB s).2.2 = true ∧ (cutB s).1.size + (cutB s).2.1.size ≤ 20 ∧ hvB (cutB s).1 = true ∧ hvB (cutB s).2.1 = true := by
  unfold vv at h
  rw [Bool.and_eq_true, Bool.and_eq_true, Bool.and_eq_true, decide_eq_true_eq] at h
  exact h
theorem implEnds (s : ByteArray) (hs : s.size ≤ 1100000) : impl_VerseEnds.f s = some (if vv s = true then (endV (cutB s).1, endV (cutB s).2.1, true) else (0, 0, false)) := by
  have hz := cut_sizes s
  unfold impl_VerseEnds.f
  rw [implHalves s hs]
  simp only [bs]
  by_cases hv : vv s = true
  · rw [if_pos hv, if_pos hv]
    simp only [if_true]
    rw [implEnd _ (by omega), implEnd _ (by omega)]
    simp only [bs]
  · rw [if_neg hv, if_neg hv]
    simp only [Bool.false_eq_true, if_false]
theorem specEnds (s : ByteArray) (hs : s.size ≤ 1100000) (k : Nat) (hk : s.size < k) : spec_VerseEnds.f k s = some (if vv s = true then (endV (cutB s).1, endV (cutB s).2.1, true) else (0, 0, false)) := by
  have hz := cut_sizes s
  unfold spec_VerseEnds.f
  rw [specValidV s hs k hk, specHalves s hs k hk]
  simp only [bs]
  by_cases hv : vv s = true
  · obtain ⟨_, _, h1, h2⟩ := vv_parts s hv
    rw [if_pos hv, if_pos hv, specEnd _ (by omega) h1 _ (by omega), specEnd _ (by omega) h2 _ (by omega)]
    simp only [bs]
  · rw [if_neg hv, if_neg hv]
theorem FnExactVerseEnds (s : ByteArray) (_ : s.size ≤ 140737488351232) : ∃ k, laws_FnExactVerseEnds.f k s = some true := by
  refine ⟨s.size + 1, ?_⟩
  unfold laws_FnExactVerseEnds.f
  by_cases h : (s.size : Int) > 1048576
  · rw [if_pos h]
  rw [if_neg h, specEnds s (by omega) _ (by omega), implEnds s (by omega)]
  simp only [bs, if_true, bne_self_eq_false, Bool.false_eq_true, if_false]
theorem rd_n (l : List Int) (n : Nat) : rd l (n : Int) = l.getD n 0 := by
  unfold rd; rw [Int.toNat_natCast]
theorem dropI (l : List Int) (n : Nat) (h : n < l.length) : l.drop n = l.getD n 0 :: l.drop (n + 1) := by
  rw [List.drop_eq_getElem_cons h, List.getD_eq_getElem?_getD, List.getElem?_eq_getElem h]; rfl
/-- The numbers from c on, one a place. -/
def cnt : List Int → Int → List Int
  | [], _ => []
  | _ :: xs, c => c :: cnt xs (c + 1)
theorem cnt_len : ∀ (l : List Int) (c : Int), (cnt l c).length = l.length
  | [], _ => rfl
  | _ :: xs, c => by simp [cnt, cnt_len xs (c + 1)]
theorem cnt_eq : ∀ (l m : List Int) (c : Int), l.length = m.length → cnt l c = cnt m c
  | [], [], _, _ => rfl
  | [], _ :: _, _, h => by simp at h
  | _ :: _, [], _, h => by simp at h
  | _ :: xs, _ :: ys, c, h => by simp only [cnt]; rw [cnt_eq xs ys _ (by simpa using h)]
theorem eqInts_loop (l : List Int) (hl : l.length ≤ 4000000) (d : Nat) : ∀ (k n : Nat), n + d = l.length → d < k → laws_eqIntS.l0 k l l (n : Int) = some true := by
  induction d with
  | zero =>
    intro k n hn hk
    obtain ⟨k, rfl⟩ := round hk
    simp only [laws_eqIntS.l0]
    rw [if_neg (by omega)]
  | succ d ih =>
    intro k n hn hk
    obtain ⟨k, rfl⟩ := round hk
    simp only [laws_eqIntS.l0]
    rw [if_pos (by omega), if_pos (by omega), if_pos (by omega), if_pos trivial, w_succ (by omega), ih k (n + 1) (by omega) (by omega)]
theorem eqInts (l : List Int) (hl : l.length ≤ 4000000) (k : Nat) (hk : l.length < k) : laws_eqIntS.f k l l = some true := by
  unfold laws_eqIntS.f
  rw [if_pos rfl]
  exact eqInts_loop l hl l.length k 0 (by omega) hk
theorem markI_loop (d : Nat) : ∀ (l : List Int) (k n : Nat) (c : Int), l.length ≤ 4000000 → n + d = l.length → d < k → 0 ≤ c → c + d ≤ 4000000000 →
    laws_markIntS.l0 k l c (n : Int) = some (c + d, l.take n ++ cnt (l.drop n) c) := by
  induction d with
  | zero =>
    intro l k n c hl hn hk h0 hc
    obtain ⟨k, rfl⟩ := round hk
    simp only [laws_markIntS.l0]
    rw [if_neg (by omega), List.take_of_length_le (by omega), List.drop_eq_nil_of_le (by omega)]
    simp [cnt]
  | succ d ih =>
    intro l k n c hl hn hk h0 hc
    obtain ⟨k, rfl⟩ := round hk
    simp only [laws_markIntS.l0]
    have h1 : n < l.length := by omega
    rw [if_pos (by omega), if_pos (by omega), Int.toNat_natCast, w64 (x := c + 1) (by omega) (by omega), w_succ (by omega)]
    rw [ih _ k (n + 1) (c + 1) (by simpa using hl) (by simp; omega) (by omega) (by omega) (by omega)]
    have e1 : (l.set n c).drop (n + 1) = l.drop (n + 1) := List.drop_set_of_lt (by omega)
    have e2 : (l.set n c).take (n + 1) = l.take n ++ [c] := by
      rw [List.take_add_one, List.take_set_of_le (Nat.le_refl _), List.getElem?_set_self h1]; rfl
    rw [e1, e2, dropI l n h1]
    simp only [cnt, List.append_assoc, List.cons_append, List.nil_append]
    congr 2
    omega
theorem markedI (l : List Int) (hl : l.length ≤ 4000000) (k : Nat) (hk : l.length < k) (c : Int) (hc : 0 ≤ c ∧ c ≤ 1000000000) : laws_markIntS.f k l c = some (c + l.length, cnt l c) := by
  unfold laws_markIntS.f
  have := markI_loop l.length l k 0 c hl (by omega) hk hc.1 (by omega)
  simpa using this
theorem heldI_loop (d : Nat) : ∀ (l : List Int) (k n : Nat) (c : Int), l.length ≤ 4000000 → n + d = l.length → d < k → 0 ≤ c → c + d ≤ 4000000000 → l.drop n = cnt (l.drop n) c →
    laws_heldIntS.l0 k l c (n : Int) = some (c + d) := by
  induction d with
  | zero =>
    intro l k n c hl hn hk h0 hc _
    obtain ⟨k, rfl⟩ := round hk
    simp only [laws_heldIntS.l0]
    rw [if_neg (by omega)]
    simp
  | succ d ih =>
    intro l k n c hl hn hk h0 hc hm
    obtain ⟨k, rfl⟩ := round hk
    have h1 : n < l.length := by omega
    rw [dropI l n h1] at hm
    simp only [cnt, List.cons.injEq] at hm
    obtain ⟨hm1, hm2⟩ := hm
    simp only [laws_heldIntS.l0]
    rw [if_pos (by omega), if_pos (by omega), rd_n, hm1, if_pos rfl, w64 (x := c + 1) (by omega) (by omega), w_succ (by omega), ih l k (n + 1) (c + 1) hl (by omega) (by omega) (by omega) (by omega) hm2]
    congr 1
    omega
theorem heldI (l : List Int) (hl : l.length ≤ 4000000) (k : Nat) (hk : l.length < k) (c : Int) (hc : 0 ≤ c ∧ c ≤ 1000000000) : laws_heldIntS.f k (cnt l c) c = some (c + l.length) := by
  unfold laws_heldIntS.f
  have := heldI_loop l.length (cnt l c) k 0 c (by rw [cnt_len]; exact hl) (by rw [cnt_len]; omega) hk hc.1 (by omega) (by simp [cnt_eq _ _ c (cnt_len l c)])
  simpa using this
/-- The places of the accents, from n on. -/
def accs : List UInt8 → Int → List Int
  | [], _ => []
  | c :: l, n => if c = 47 then n :: accs l (n + 1) else accs l (n + 1)
theorem accs_len : ∀ (l : List UInt8) (n : Int), (accs l n).length ≤ l.length
  | [], _ => Nat.le_refl _
  | c :: l, n => by
    have := accs_len l (n + 1)
    simp only [accs]
    split <;> simp <;> omega
theorem implAcc_loop (s : ByteArray) (hs : s.size ≤ 1100000) (d : Nat) : ∀ (k n : Nat) (x : List Int), n + d = s.size → d < k → x.length ≤ n →
    impl_VerseAccents.l0 k x s (s.size : Int) (n : Int) = some (x ++ accs ((L s).drop n) n) := by
  induction d with
  | zero =>
    intro k n x hn hk hx
    obtain ⟨k, rfl⟩ := round hk
    simp only [impl_VerseAccents.l0]
    rw [if_neg (by omega), show (L s).drop n = [] from List.drop_eq_nil_of_le (by rw [← L_size]; omega)]
    simp [accs]
  | succ d ih =>
    intro k n x hn hk hx
    obtain ⟨k, rfl⟩ := round hk
    obtain ⟨c, hc, hd⟩ := drop_c (L s) n (by rw [← L_size]; omega)
    simp only [impl_VerseAccents.l0]
    rw [if_pos (by omega), if_pos (by omega), if_pos (by omega), bt_n s n c hc, w_succ (by omega), hd]
    simp only [accs]
    by_cases h : c = 47
    · rw [if_pos ((is_ac c).2 h), if_pos h, if_pos (by omega), ih k (n + 1) _ (by omega) (by omega) (by simp; omega)]
      simp
    · rw [if_neg (fun e => h ((is_ac c).1 e)), if_neg h, ih k (n + 1) _ (by omega) (by omega) (by omega)]
      simp
theorem specAcc_loop (s : ByteArray) (hs : s.size ≤ 1100000) (d : Nat) : ∀ (k n : Nat) (x : List Int), n + d = s.size → d < k → x.length ≤ n →
    spec_VerseAccents.l0 k x s (n : Int) = some (x ++ accs ((L s).drop n) n) := by
  induction d with
  | zero =>
    intro k n x hn hk hx
    obtain ⟨k, rfl⟩ := round hk
    simp only [spec_VerseAccents.l0]
    rw [if_neg (by omega), show (L s).drop n = [] from List.drop_eq_nil_of_le (by rw [← L_size]; omega)]
    simp [accs]
  | succ d ih =>
    intro k n x hn hk hx
    obtain ⟨k, rfl⟩ := round hk
    obtain ⟨c, hc, hd⟩ := drop_c (L s) n (by rw [← L_size]; omega)
    simp only [spec_VerseAccents.l0]
    rw [if_pos (by omega), if_pos (by omega), bt_n s n c hc, w_succ (by omega), hd]
    simp only [accs]
    by_cases h : c = 47
    · rw [if_pos ((is_ac c).2 h), if_pos h, if_pos (by omega), ih k (n + 1) _ (by omega) (by omega) (by simp; omega)]
      simp
    · rw [if_neg (fun e => h ((is_ac c).1 e)), if_neg h, ih k (n + 1) _ (by omega) (by omega) (by omega)]
      simp
theorem L_append (a b : ByteArray) : L (a ++ b) = L a ++ L b := by simp [L]
/-- The accents of a verse. -/
def accV (s : ByteArray) : List Int := if vv s = true then accs (L (cutB s).1 ++ L (cutB s).2.1) 0 else []
theorem accV_len (s : ByteArray) : (accV s).length ≤ 20 := by
  unfold accV
  by_cases hv : vv s = true
  · obtain ⟨_, h1, _, _⟩ := vv_parts s hv
    rw [if_pos hv]
    have := accs_len (L (cutB s).1 ++ L (cutB s).2.1) 0
    rw [List.length_append, ← L_size, ← L_size] at this
    omega
  · rw [if_neg hv]; simp
theorem implAcc (s : ByteArray) (hs : s.size ≤ 1100000) (k : Nat) (hk : s.size < k) : impl_VerseAccents.f k s = some (accV s) := by
  have hz := cut_sizes s
  unfold impl_VerseAccents.f accV
  rw [implHalves s hs]
  simp only [bs]
  by_cases hv : vv s = true
  · have hj := hz.1 (vv_parts s hv).1
    rw [if_pos hv, if_pos hv]
    simp only [if_true]
    rw [if_pos (by omega)]
    have hsz : ((cutB s).1 ++ (cutB s).2.1).size = (cutB s).1.size + (cutB s).2.1.size := ByteArray.size_append
    have := implAcc_loop ((cutB s).1 ++ (cutB s).2.1) (by omega) ((cutB s).1 ++ (cutB s).2.1).size k 0 [] (by omega) (by omega) (by simp)
    rw [show ((0 : Nat) : Int) = 0 from rfl] at this
    rw [this, List.drop_zero, L_append, List.nil_append]
  · rw [if_neg hv, if_neg hv]
    simp only [Bool.false_eq_true, if_false]
theorem specAcc (s : ByteArray) (hs : s.size ≤ 1100000) (k : Nat) (hk : s.size < k) : spec_VerseAccents.f k s = some (accV s) := by
  have hz := cut_sizes s
  unfold spec_VerseAccents.f accV
  rw [specValidV s hs k hk, specHalves s hs k hk]
  simp only [bs]
  by_cases hv : vv s = true
  · have hj := hz.1 (vv_parts s hv).1
    rw [if_pos hv, if_pos hv, if_pos (by omega)]
    have hsz : ((cutB s).1 ++ (cutB s).2.1).size = (cutB s).1.size + (cutB s).2.1.size := ByteArray.size_append
    have := specAcc_loop ((cutB s).1 ++ (cutB s).2.1) (by omega) ((cutB s).1 ++ (cutB s).2.1).size k 0 [] (by omega) (by omega) (by simp)
    rw [show ((0 : Nat) : Int) = 0 from rfl] at this
    rw [this, List.drop_zero, L_append, List.nil_append]
  · rw [if_neg hv, if_neg hv]
theorem FnExactVerseAccents (s : ByteArray) (_ : s.size ≤ 140737488351232) : ∃ k, laws_FnExactVerseAccents.f k s = some true := by
  refine ⟨s.size + 30, ?_⟩
  unfold laws_FnExactVerseAccents.f
  by_cases h : (s.size : Int) > 1048576
  · rw [if_pos h]
  have ha := accV_len s
  rw [if_neg h, specAcc s (by omega) _ (by omega), implAcc s (by omega) _ (by omega)]
  simp only [bs]
  generalize accV s = r at ha ⊢
  rw [eqInts r (by omega) _ (by omega)]
  simp only [bs, if_true]
  rw [markedI r (by omega) _ (by omega) 1 (by omega)]
  simp only [bs]
  rw [heldI r (by omega) _ (by omega) 1 (by omega)]
  simp only [bs, if_true]
  rw [if_neg (by omega), if_neg (by omega)]
end Go.Proofs.YtocpicgepgphoaaDoor.ZA
