/- The plain laws: what the Lean functions of the walks come to. No program and no memory in sight. No condition beyond what each theorem says. -/
import Derived.Test.YtpfgeflnhkpmaaaDoorXHx2
import Derived.Test.YtpfgeflnhkpmaaaDoorXHx3
import Derived.Test.YtpfgeflnhkpmaaaDoorXHx4
namespace Go.Proofs.YtpfgeflnhkpmaaaDoor.ZH
open Go.RowKit Go.Proofs.YtpfgeflnhkpmaaaDoor.XH Go.Proofs.YtpfgeflnhkpmaaaDoorW.PrintWords Go.Proofs.YtpfgeflnhkpmaaaDoorW.PrintLast
set_option linter.unusedVariables false
set_option linter.unusedSimpArgs false
theorem w64 {x : Int} (h0 : -9223372036854775808 ≤ x) (h1 : x < 9223372036854775808) : wrap64 x = x := by unfold wrap64; omega
/-- Not by rfl: so simp leaves a proof, and the kernel need not compare the two sides by running them. -/
theorem bs {α β : Type} (a : α) (f : α → Option β) : (some a).bind f = f a := by
  have h : ∀ o : Option α, o = some a → o.bind f = f a := by
    rintro _ rfl
    rfl
  exact h _ rfl
theorem w_succ {n : Nat} (h : n < 4611686018427387904) : wrap64 ((n : Int) + 1) = ((n + 1 : Nat) : Int) := by
  rw [w64 (by omega) (by omega)]; omega
theorem round {k d : Nat} (h : d < k) : ∃ m, k = m + 1 := ⟨k - 1, by omega⟩
theorem rd_n (l : List Int) (n : Nat) : rd l (n : Int) = l.getD n 0 := by
  unfold rd; rw [Int.toNat_natCast]
theorem dropI (l : List Int) (n : Nat) (h : n < l.length) : l.drop n = l.getD n 0 :: l.drop (n + 1) := by
  rw [List.drop_eq_getElem_cons h, List.getD_eq_getElem?_getD, List.getElem?_eq_getElem h]; rfl
/-- The numbers from c on, one a place. -/
def cnt : List Int → Int → List Int
  | [], _ => []
  | _ :: xs, c => c :: cnt xs (c + 1)
theorem cnt_len : ∀ (l : List Int) (c : Int), (cnt l c).length = l.length
  | [], _ => rfl
  | _ :: xs, c => by simp [cnt, cnt_len xs (c + 1)]
theorem cnt_eq : ∀ (l m : List Int) (c : Int), l.length = m.length → cnt l c = cnt m c
  | [], [], _, _ => rfl
  | [], _ :: _, _, h => by simp at h
  | _ :: _, [], _, h => by simp at h
  | _ :: xs, _ :: ys, c, h => by simp only [cnt]; rw [cnt_eq xs ys _ (by simpa using h)]
theorem eqInts_loop (l : List Int) (hl : l.length ≤ 4000000) (d : Nat) : ∀ (k n : Nat), n + d = l.length → d < k → laws_eqIntS.l0 k l l (n : Int) = some true := by
  induction d with
  | zero =>
    intro k n hn hk
    obtain ⟨k, rfl⟩ := round hk
    simp only [laws_eqIntS.l0]
    rw [if_neg (by omega)]
  | succ d ih =>
    intro k n hn hk
    obtain ⟨k, rfl⟩ := round hk
    simp only [laws_eqIntS.l0]
    rw [if_pos (by omega), if_pos (by omega), if_pos (by omega), if_pos trivial, w_succ (by omega), ih k (n + 1) (by omega) (by omega)]
theorem eqInts (l : List Int) (hl : l.length ≤ 4000000) (k : Nat) (hk : l.length < k) : laws_eqIntS.f k l l = some true := by
  unfold laws_eqIntS.f
  rw [if_pos rfl]
  exact eqInts_loop l hl l.length k 0 (by omega) hk
theorem markI_loop (d : Nat) : ∀ (l : List Int) (k n : Nat) (c : Int), l.length ≤ 4000000 → n + d = l.length → d < k → 0 ≤ c → c + d ≤ 4000000000 →
    laws_markIntS.l0 k l c (n : Int) = some (c + d, l.take n ++ cnt (l.drop n) c) := by
  induction d with
  | zero =>
    intro l k n c hl hn hk h0 hc
    obtain ⟨k, rfl⟩ := round hk
    simp only [laws_markIntS.l0]
    rw [if_neg (by omega), List.take_of_length_le (by omega), List.drop_eq_nil_of_le (by omega)]
    simp [cnt]
  | succ d ih =>
    intro l k n c hl hn hk h0 hc
    obtain ⟨k, rfl⟩ := round hk
    simp only [laws_markIntS.l0]
    have h1 : n < l.length := by omega
    rw [if_pos (by omega), if_pos (by omega), Int.toNat_natCast, w64 (x := c + 1) (by omega) (by omega), w_succ (by omega)]
    rw [ih _ k (n + 1) (c + 1) (by simpa using hl) (by simp; omega) (by omega) (by omega) (by omega)]
    have e1 : (l.set n c).drop (n + 1) = l.drop (n + 1) := List.drop_set_of_lt (by omega)
    have e2 : (l.set n c).take (n + 1) = l.take n ++ [c] := by
      rw [List.take_add_one, List.take_set_of_le (Nat.le_refl _), List.getElem?_set_self h1]; rfl
    rw [e1, e2, dropI l n h1]
    simp only [cnt, List.append_assoc, List.cons_append, List.nil_append]
    congr 2
    omega
theorem markedI (l : List Int) (hl : l.length ≤ 4000000) (k : Nat) (hk : l.length < k) (c : Int) (hc : 0 ≤ c ∧ c ≤ 1000000000) : laws_markIntS.f k l c = some (c + l.length, cnt l c) := by
  unfold laws_markIntS.f
  have := markI_loop l.length l k 0 c hl (by omega) hk hc.1 (by omega)
  simpa using this
theorem heldI_loop (d : Nat) : ∀ (l : List Int) (k n : Nat) (c : Int), l.length ≤ 4000000 → n + d = l.length → d < k → 0 ≤ c → c + d ≤ 4000000000 → l.drop n = cnt (l.drop n) c →
    laws_heldIntS.l0 k l c (n : Int) = some (c + d) := by
  induction d with
  | zero =>
    intro l k n c hl hn hk h0 hc _
    obtain ⟨k, rfl⟩ := round hk
    simp only [laws_heldIntS.l0]
    rw [if_neg (by omega)]
    simp
  | succ d ih =>
    intro l k n c hl hn hk h0 hc hm
    obtain ⟨k, rfl⟩ := round hk
    have h1 : n < l.length := by omega
    rw [dropI l n h1] at hm
    simp only [cnt, List.cons.injEq] at hm
    obtain ⟨hm1, hm2⟩ := hm
    simp only [laws_heldIntS.l0]
    rw [if_pos (by omega), if_pos (by omega), rd_n, hm1, if_pos rfl, w64 (x := c + 1) (by omega) (by omega), w_succ (by omega), ih l k (n + 1) (c + 1) hl (by omega) (by omega) (by omega) (by omega) hm2]
    congr 1
    omega
theorem heldI (l : List Int) (hl : l.length ≤ 4000000) (k : Nat) (hk : l.length < k) (c : Int) (hc : 0 ≤ c ∧ c ≤ 1000000000) : laws_heldIntS.f k (cnt l c) c = some (c + l.length) := by
  unfold laws_heldIntS.f
  have := heldI_loop l.length (cnt l c) k 0 c (by rw [cnt_len]; exact hl) (by rw [cnt_len]; omega) hk hc.1 (by omega) (by simp [cnt_eq _ _ c (cnt_len l c)])
  simpa using this
theorem in21 (P : Int → Prop) (h : ∀ n : Fin 21, P (n.val : Int)) (a : Int) (ha : 0 ≤ a ∧ a ≤ 20) : P a := by
  have := h ⟨a.toNat, by omega⟩
  have e : ((a.toNat : Nat) : Int) = a := by omega
  rw [← e]
  exact this
/-- What HexTone gives lies in the gamut. -/
def htChk (s k : Int) : Bool := match spec_HexTone.f s k with
  | some (v, _, _) => decide (0 ≤ v) && decide (v ≤ 20)
  | none => false
theorem ht_all : ∀ (n : Fin 21) (k : Fin 6), htChk (n.val : Int) (k.val : Int) = true := by decide +kernel
theorem ht_ok (s k : Int) (hs : 0 ≤ s ∧ s ≤ 20) (hk : 0 ≤ k ∧ k < 6) : ∃ v b ok, spec_HexTone.f s k = some (v, b, ok) ∧ 0 ≤ v ∧ v ≤ 20 := by
  have h := in21 (fun s => htChk s k = true) (fun n => by
    have := ht_all n ⟨k.toNat, by omega⟩
    rwa [show ((k.toNat : Nat) : Int) = k by omega] at this) s hs
  unfold htChk at h
  cases e : spec_HexTone.f s k with
  | none => rw [e] at h; cases h
  | some r =>
    obtain ⟨v, b, ok⟩ := r
    rw [e] at h
    simp only [Bool.and_eq_true, decide_eq_true_eq] at h
    exact ⟨v, b, ok, rfl, h.1, h.2⟩
theorem specSyl_out (s t0 : Int) (t1 : Bool) (hs : 0 ≤ s ∧ s ≤ 20) (ht : ¬ (0 ≤ t0 ∧ t0 ≤ 20)) (d : Nat) : ∀ (k n : Nat), n + d = 6 → d < k → spec_HexSyllable.l0 k s (n : Int) t0 t1 = some (-1) := by
  induction d with
  | zero =>
    intro k n hn hk
    obtain ⟨k, rfl⟩ := round hk
    simp only [spec_HexSyllable.l0]
    rw [if_neg (by omega)]
  | succ d ih =>
    intro k n hn hk
    obtain ⟨k, rfl⟩ := round hk
    obtain ⟨v, b, ok, e, h0, h1⟩ := ht_ok s (n : Int) hs (by omega)
    simp only [spec_HexSyllable.l0]
    rw [if_pos (by omega), e]
    simp only [Option.bind_some]
    have e2 : (v == t0) = false := by
      have : v ≠ t0 := by omega
      simpa using this
    rw [e2, Bool.false_and, w_succ (by omega), ih k (n + 1) (by omega) (by omega)]
    split <;> simp
theorem specAll_out (t0 : Int) (t1 : Bool) (ht : ¬ (0 ≤ t0 ∧ t0 ≤ 20)) (d : Nat) : ∀ (k n : Nat), n + d = 21 → d + 10 < k → spec_HexAll.l0 k [] (n : Int) t0 t1 = some [] := by
  induction d with
  | zero =>
    intro k n hn hk
    obtain ⟨k, rfl⟩ : ∃ j, k = j + 1 := ⟨k - 1, by omega⟩
    simp only [spec_HexAll.l0]
    rw [if_neg (by omega)]
  | succ d ih =>
    intro k n hn hk
    obtain ⟨k, rfl⟩ : ∃ j, k = j + 1 := ⟨k - 1, by omega⟩
    simp only [spec_HexAll.l0]
    rw [if_pos (by omega)]
    unfold spec_HexSyllable.f
    have e := specSyl_out (n : Int) t0 t1 (by omega) ht 6 k 0 (by omega) (by omega)
    rw [show ((0 : Nat) : Int) = 0 from rfl] at e
    rw [e]
    simp only [Option.bind_some]
    rw [if_neg (by omega), w_succ (by omega), ih k (n + 1) (by omega) (by omega)]
theorem sylFrom_out (s : Nat) (t0 : Int) (t1 : Bool) (h : ∀ j : Nat, j < 6 → (s : Int) + (j : Int) ≠ t0) : ∀ (d i : Nat), i + d = 6 → sylFrom s t0 t1 d i = -1
  | 0, i, _ => rfl
  | d + 1, i, hi => by
    unfold sylFrom
    have : ((s : Int) + (i : Int) == t0) = false := by simpa using h i (by omega)
    rw [this, Bool.false_and, if_neg (by simp)]
    exact sylFrom_out s t0 t1 h d (i + 1) (by omega)
theorem syl_out {s : Nat} (hs : s ∈ hexStarts) {t0 : Int} (t1 : Bool) (ht : ¬ (0 ≤ t0 ∧ t0 ≤ 20)) : syl s t0 t1 = -1 := by
  have hs2 : s ≤ 14 := by
    simp only [hexStarts, List.mem_cons, List.not_mem_nil, or_false] at hs
    omega
  exact sylFrom_out s t0 t1 (fun j hj => by omega) 6 0 rfl
theorem have_out {t0 : Int} (t1 : Bool) (ht : ¬ (0 ≤ t0 ∧ t0 ≤ 20)) : hexHave t0 t1 hexStarts = [] := by
  unfold hexHave
  rw [List.map_eq_nil_iff, List.filter_eq_nil_iff]
  intro s hs
  rw [syl_out hs t1 ht]
  decide
theorem all_in : ∀ (n : Fin 21) (b : Bool), spec_HexAll.f 60 (n.val : Int) b = some (hexHave (n.val : Int) b hexStarts) := by decide +kernel
theorem specAll (t0 : Int) (t1 : Bool) (k : Nat) (hk : 60 ≤ k) : spec_HexAll.f k t0 t1 = some (hexHave t0 t1 hexStarts) := by
  by_cases h : 0 ≤ t0 ∧ t0 ≤ 20
  · have := in21 (fun t => ∀ b, spec_HexAll.f 60 t b = some (hexHave t b hexStarts)) all_in t0 h t1
    exact at_rounds (spec_HexAll.mono t0 t1) hk this
  · rw [have_out t1 h]
    unfold spec_HexAll.f
    exact specAll_out t0 t1 h 21 k 0 (by omega) (by omega)
theorem have_le (t0 : Int) (t1 : Bool) : (hexHave t0 t1 hexStarts).length ≤ 7 := by
  have := hexHave_len t0 t1 hexStarts
  have e : hexStarts.length = 7 := rfl
  omega
theorem FnExactHexAll (t0 : Int) (t1 : Bool) (_ : (Lit.int .i64 t0).wf = true ∧ True) : ∃ k, laws_FnExactHexAll.f k t0 t1 = some true := by
  refine ⟨60, ?_⟩
  have hl := have_le t0 t1
  have hI : impl_HexAll.f t0 t1 = some (hexHave t0 t1 hexStarts) := rfl
  unfold laws_FnExactHexAll.f laws_toTone.f
  simp only [Option.bind_some]
  rw [specAll t0 t1 60 (by omega), hI]
  simp only [Option.bind_some]
  rw [eqInts _ (by omega) _ (by omega)]
  simp only [Option.bind_some, if_true]
  rw [markedI _ (by omega) _ (by omega) 1 (by omega)]
  simp only [Option.bind_some]
  rw [heldI _ (by omega) _ (by omega) 1 (by omega)]
  simp only [Option.bind_some]
  rw [if_neg (by omega), if_pos trivial]
  simp
  omega
end Go.Proofs.YtpfgeflnhkpmaaaDoor.ZH
