/- The plain laws: what the Lean functions of the walks come to. No program and no memory in sight. No condition beyond what each theorem says. -/
import Derived.Test.YtpfgeflnhkpmaaaDoorXNx2
import Derived.Test.YtpfgeflnhkpmaaaDoorXNx3
import Derived.Test.YtpfgeflnhkpmaaaDoorXNx4
import Derived.Test.YtpfgeflnhkpmaaaDoorXNx5
namespace Go.Proofs.YtpfgeflnhkpmaaaDoor.ZN
open Go.RowKit Go.Proofs.YtpfgeflnhkpmaaaDoor.XN Go.Proofs.YtpfgeflnhkpmaaaDoorW.PrintWords Go.Proofs.YtpfgeflnhkpmaaaDoorW.PrintLast
set_option linter.unusedVariables false
set_option linter.unusedSimpArgs false
theorem w64 {x : Int} (h0 : -9223372036854775808 ≤ x) (h1 : x < 9223372036854775808) : wrap64 x = x := by unfold wrap64; omega
/-- Not by rfl: so simp leaves a proof, and the kernel need not compare the two sides by running them. -/
theorem bs {α β : Type} (a : α) (f : α → Option β) : (some a).bind f = f a := by
  have h : ∀ o : Option α, o = some a → o.bind f = f a := by
    rintro _ rfl
    rfl
  exact h _ rfl
theorem w_succ {n : Nat} (h : n < 4611686018427387904) : wrap64 ((n : Int) + 1) = ((n + 1 : Nat) : Int) := by
  rw [w64 (by omega) (by omega)]; omega
theorem round {k d : Nat} (h : d < k) : ∃ m, k = m + 1 := ⟨k - 1, by omega⟩
/-- The starts among l whose hexachords have a tone. -/
def hexHave (t0 : Int) (t1 : Bool) (l : List Nat) : List Int := (l.filter (fun s => decide (0 ≤ syl s t0 t1))).map (fun s : Nat => (s : Int))
theorem hexHave_len (t0 : Int) (t1 : Bool) (l : List Nat) : (hexHave t0 t1 l).length ≤ l.length := by
  unfold hexHave
  rw [List.length_map]
  exact List.length_filter_le _ _
theorem in21 (P : Int → Prop) (h : ∀ n : Fin 21, P (n.val : Int)) (a : Int) (ha : 0 ≤ a ∧ a ≤ 20) : P a := by
  have := h ⟨a.toNat, by omega⟩
  have e : ((a.toNat : Nat) : Int) = a := by omega
  rw [← e]
  exact this
/-- What HexTone gives lies in the gamut. -/
def htChk (s k : Int) : Bool := match spec_HexTone.f s k with
  | some (v, _, _) => decide (0 ≤ v) && decide (v ≤ 20)
  | none => false
theorem ht_all : ∀ (n : Fin 21) (k : Fin 6), htChk (n.val : Int) (k.val : Int) = true := by decide +kernel
theorem ht_ok (s k : Int) (hs : 0 ≤ s ∧ s ≤ 20) (hk : 0 ≤ k ∧ k < 6) : ∃ v b ok, spec_HexTone.f s k = some (v, b, ok) ∧ 0 ≤ v ∧ v ≤ 20 := by
  have h := in21 (fun s => htChk s k = true) (fun n => by
    have := ht_all n ⟨k.toNat, by omega⟩
    rwa [show ((k.toNat : Nat) : Int) = k by omega] at this) s hs
  unfold htChk at h
  cases e : spec_HexTone.f s k with
  | none => rw [e] at h; cases h
  | some r =>
    obtain ⟨v, b, ok⟩ := r
    rw [e] at h
    simp only [Bool.and_eq_true, decide_eq_true_eq] at h
    exact ⟨v, b, ok, rfl, h.1, h.2⟩
theorem specSyl_out (s t0 : Int) (t1 : Bool) (hs : 0 ≤ s ∧ s ≤ 20) (ht : ¬ (0 ≤ t0 ∧ t0 ≤ 20)) (d : Nat) : ∀ (k n : Nat), n + d = 6 → d < k → spec_HexSyllable.l0 k s (n : Int) t0 t1 = some (-1) := by
  induction d with
  | zero =>
    intro k n hn hk
    obtain ⟨k, rfl⟩ := round hk
    simp only [spec_HexSyllable.l0]
    rw [if_neg (by omega)]
  | succ d ih =>
    intro k n hn hk
    obtain ⟨k, rfl⟩ := round hk
    obtain ⟨v, b, ok, e, h0, h1⟩ := ht_ok s (n : Int) hs (by omega)
    simp only [spec_HexSyllable.l0]
    rw [if_pos (by omega), e]
    simp only [Option.bind_some]
    have e2 : (v == t0) = false := by
      have : v ≠ t0 := by omega
      simpa using this
    rw [e2, Bool.false_and, w_succ (by omega), ih k (n + 1) (by omega) (by omega)]
    split <;> simp
theorem specAll_out (t0 : Int) (t1 : Bool) (ht : ¬ (0 ≤ t0 ∧ t0 ≤ 20)) (d : Nat) : ∀ (k n : Nat), n + d = 21 → d + 10 < k → spec_HexAll.l0 k [] (n : Int) t0 t1 = some [] := by
  induction d with
  | zero =>
    intro k n hn hk
    obtain ⟨k, rfl⟩ : ∃ j, k = j + 1 := ⟨k - 1, by omega⟩
    simp only [spec_HexAll.l0]
    rw [if_neg (by omega)]
  | succ d ih =>
    intro k n hn hk
    obtain ⟨k, rfl⟩ : ∃ j, k = j + 1 := ⟨k - 1, by omega⟩
    simp only [spec_HexAll.l0]
    rw [if_pos (by omega)]
    unfold spec_HexSyllable.f
    have e := specSyl_out (n : Int) t0 t1 (by omega) ht 6 k 0 (by omega) (by omega)
    rw [show ((0 : Nat) : Int) = 0 from rfl] at e
    rw [e]
    simp only [Option.bind_some]
    rw [if_neg (by omega), w_succ (by omega), ih k (n + 1) (by omega) (by omega)]
theorem sylFrom_out (s : Nat) (t0 : Int) (t1 : Bool) (h : ∀ j : Nat, j < 6 → (s : Int) + (j : Int) ≠ t0) : ∀ (d i : Nat), i + d = 6 → sylFrom s t0 t1 d i = -1
  | 0, i, _ => rfl
  | d + 1, i, hi => by
    unfold sylFrom
    have : ((s : Int) + (i : Int) == t0) = false := by simpa using h i (by omega)
    rw [this, Bool.false_and, if_neg (by simp)]
    exact sylFrom_out s t0 t1 h d (i + 1) (by omega)
theorem syl_out {s : Nat} (hs : s ∈ hexStarts) {t0 : Int} (t1 : Bool) (ht : ¬ (0 ≤ t0 ∧ t0 ≤ 20)) : syl s t0 t1 = -1 := by
  have hs2 : s ≤ 14 := by
    simp only [hexStarts, List.mem_cons, List.not_mem_nil, or_false] at hs
    omega
  exact sylFrom_out s t0 t1 (fun j hj => by omega) 6 0 rfl
theorem have_out {t0 : Int} (t1 : Bool) (ht : ¬ (0 ≤ t0 ∧ t0 ≤ 20)) : hexHave t0 t1 hexStarts = [] := by
  unfold hexHave
  rw [List.map_eq_nil_iff, List.filter_eq_nil_iff]
  intro s hs
  rw [syl_out hs t1 ht]
  decide
theorem all_in : ∀ (n : Fin 21) (b : Bool), spec_HexAll.f 60 (n.val : Int) b = some (hexHave (n.val : Int) b hexStarts) := by decide +kernel
theorem specAll (t0 : Int) (t1 : Bool) (k : Nat) (hk : 60 ≤ k) : spec_HexAll.f k t0 t1 = some (hexHave t0 t1 hexStarts) := by
  by_cases h : 0 ≤ t0 ∧ t0 ≤ 20
  · have := in21 (fun t => ∀ b, spec_HexAll.f 60 t b = some (hexHave t b hexStarts)) all_in t0 h t1
    exact at_rounds (spec_HexAll.mono t0 t1) hk this
  · rw [have_out t1 h]
    unfold spec_HexAll.f
    exact specAll_out t0 t1 h 21 k 0 (by omega) (by omega)
theorem have_le (t0 : Int) (t1 : Bool) : (hexHave t0 t1 hexStarts).length ≤ 7 := by
  have := hexHave_len t0 t1 hexStarts
  have e : hexStarts.length = 7 := rfl
  omega
theorem names_in : ∀ (n : Fin 21) (b : Bool), spec_ToneNames.f 60 (n.val : Int) b = some (namesFrom (n.val : Int) b hexStarts.reverse ⟨#[]⟩) := by decide +kernel
theorem names_out {t0 : Int} (t1 : Bool) (x : ByteArray) : ∀ l : List Nat, (∀ s ∈ l, syl s t0 t1 = -1) → namesFrom t0 t1 l x = x
  | [], _ => rfl
  | s :: l, h => by
    unfold namesFrom
    rw [if_pos (by rw [h s (by simp)]; decide)]
    exact names_out t1 x l (fun u hu => h u (List.mem_cons_of_mem _ hu))
theorem specNames (t0 : Int) (t1 : Bool) : spec_ToneNames.f 60 t0 t1 = some (namesFrom t0 t1 hexStarts.reverse ⟨#[]⟩) := by
  by_cases h : 0 ≤ t0 ∧ t0 ≤ 20
  · exact in21 (fun t => ∀ b, spec_ToneNames.f 60 t b = some (namesFrom t b hexStarts.reverse ⟨#[]⟩)) names_in t0 h t1
  · unfold spec_ToneNames.f
    rw [specAll t0 t1 60 (by omega), have_out t1 h, names_out t1 _ _ (fun s hs => syl_out (List.mem_reverse.1 hs) t1 h)]
    simp only [Option.bind_some]
    obtain ⟨k, hk⟩ : ∃ k, 60 = k + 1 := ⟨59, rfl⟩
    rw [hk]
    simp only [spec_ToneNames.l0]
    rw [if_neg (by rw [w64 (by simp) (by simp)]; simp)]
theorem FnExactToneNames (t0 : Int) (t1 : Bool) (_ : (Lit.int .i64 t0).wf = true ∧ True) : ∃ k, laws_FnExactToneNames.f k t0 t1 = some true := by
  refine ⟨60, ?_⟩
  have hI : impl_ToneNames.f t0 t1 = some (namesFrom t0 t1 hexStarts.reverse ⟨#[]⟩) := rfl
  unfold laws_FnExactToneNames.f laws_toTone.f
  simp only [Option.bind_some]
  rw [specNames, hI]
  simp only [Option.bind_some]
  rw [if_pos trivial]
end Go.Proofs.YtpfgeflnhkpmaaaDoor.ZN
