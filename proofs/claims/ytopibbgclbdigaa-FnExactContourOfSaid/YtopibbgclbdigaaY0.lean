/- What the rows use: from the data that an argument reads as to the form in which the walks read it. No condition; plain lemmas over whatever program. -/
import Derived.Test.YtopibbgclbdigaaWMore
import Derived.ProofKit
import Derived.OpenShut
import Derived.Lib.SmallJoins
namespace Go.Proofs.Ytopibbgclbdigaa.Y
open Go.RowKit Go.ChangeShapes Go.WideShapes Go.ChangeAt Go.Proofs.YtopibbgclbdigaaW.PrintWords
set_option linter.unusedVariables false

/-- Whatever reads as data of type t is told by the kind k, and Q holds of it. -/
def Opens {α : Type} (P : Program) (t : TypeId) (k : Kd α) (Q : α → Prop) : Prop :=
  ∀ {H : Type} (enc : TypeId × Value → H) (w : World) (spare : Nat → Bool) (held : Bool) (fuel : Nat) (cs : List Value) (x : DataW H × List MemPlace),
    DataW.trod enc P w 0 spare held fuel t cs = some x → ∃ y : α, k.K w y cs ∧ Q y

theorem opens_int {P : Program} {t : TypeId} {k : IntKind} (ht : P.underlying t = some (.int k)) : Opens P t (Kd.int k) (fun n => (Lit.int k n).wf = true) := by
  intro H enc w spare held fuel cs x h
  obtain ⟨n, e, _, hw⟩ := DataW.trod_int ht h
  exact ⟨n, e, hw⟩
theorem opens_bool {P : Program} {t : TypeId} (ht : P.underlying t = some .bool) : Opens P t Kd.bool (fun _ => True) := by
  intro H enc w spare held fuel cs x h
  obtain ⟨n, e, _⟩ := DataW.trod_bool ht h
  exact ⟨n, e, trivial⟩
theorem cells_get {w : World} {a : Addr} {n : Nat} {cs : List Value} (h : w.cells? 0 a n = some cs) : cs.length = n ∧ ∀ i u, cs[i]? = some u → w.cell? (a.add i) = some u := by
  unfold World.cells? at h
  rw [if_pos (Nat.zero_le _)] at h
  have hl : cs.length = n := by simpa using mapM_some_length h
  refine ⟨hl, fun i u hu => ?_⟩
  have hi : i < n := by
    have := (List.getElem?_eq_some_iff.1 hu).1
    omega
  have := mapM_some_get h i i (by simp [hi])
  rw [this]
  exact hu
theorem opens_slice {α : Type} {P : Program} {t e : TypeId} {d : Kd α} {Q : α → Prop} (e' : Nat) (ht : P.underlying t = some (.slice e)) (hd : Opens P e d Q) (hs : d.sz = P.cellsOf e) :
    Opens P t (Kd.slice e' d) (fun xs => ∀ x ∈ xs, Q x) := by
  intro H enc w spare held fuel cs x h
  rcases DataW.trod_slice ht h with ⟨rfl, _⟩ | ⟨a, len, cap, elems, rest, n, _, rfl, _, _, hl, hm, hlen, hel, _, _⟩
  · exact ⟨[], ⟨none, 0, rfl, Nat.le_refl _, rfl, by simp, fun h => by simp at h⟩, fun x hx => by cases hx⟩
  · have hE : ∀ i, i < len → ∃ (y : α) (c : List Value), (d.K w y c ∧ Q y) ∧ ∀ j u, c[j]? = some u → w.cell? (a.add (i * d.sz + j)) = some u := by
      intro i hi
      have h1 := hel i hi
      have h2 : elems[i]? = some elems[i] := List.getElem?_eq_getElem (by omega)
      rw [h2] at h1
      obtain ⟨c, hc, hy⟩ := Option.bind_eq_some_iff.1 h1
      obtain ⟨y, hK⟩ := hd enc w spare held n c _ hy
      obtain ⟨_, hg⟩ := cells_get hc
      refine ⟨y, c, hK, fun j u hu => ?_⟩
      have := hg j u hu
      rw [hs]
      have e1 : (a.add (i * P.cellsOf e)).add j = a.add (i * P.cellsOf e + j) := by
        unfold Addr.add
        by_cases h3 : i * P.cellsOf e = 0
        · simp [h3]
        · by_cases h4 : j = 0
          · simp [h4]
          · simp [h3, h4, Nat.add_assoc]
      rw [← e1]
      exact this
    have hL : ∀ m, m ≤ len → ∃ xs : List α, xs.length = m ∧ (∀ x ∈ xs, Q x) ∧ ∀ j p, xs[j]? = some p → ∃ c : List Value, c.length = d.sz ∧ d.K w p c ∧ ∀ i u, c[i]? = some u → w.cell? (a.add (j * d.sz + i)) = some u := by
      intro m
      induction m with
      | zero => exact fun _ => ⟨[], rfl, (by intro x hx; cases hx), (by intro j p hp; simp at hp)⟩
      | succ m ih =>
        intro hm
        obtain ⟨xs, hx, hq, hp⟩ := ih (by omega)
        obtain ⟨y, c, ⟨hK, hQ⟩, hc⟩ := hE m (by omega)
        refine ⟨xs ++ [y], by simp [hx], fun x hx => ?_, fun j p hj => ?_⟩
        · rcases List.mem_append.1 hx with h | h
          · exact hq x h
          · rw [List.mem_singleton.1 h]; exact hQ
        by_cases hjm : j < m
        · rw [List.getElem?_append_left (by omega)] at hj
          exact hp j p hj
        · have hjm' : j = m := by
            have := (List.getElem?_eq_some_iff.1 hj).1
            simp [hx] at this
            omega
          subst hjm'
          rw [List.getElem?_append_right (by omega)] at hj
          simp [hx] at hj
          subst hj
          exact ⟨c, d.K_len hK, hK, hc⟩
    obtain ⟨xs, hx, hq, hp⟩ := hL len (Nat.le_refl _)
    exact ⟨xs, ⟨some a, cap, by rw [hx], by omega, rfl, by unfold maxLen at hm; omega, fun _ => ⟨a, rfl, hp⟩⟩, hq⟩
theorem cut2 {cs : List Value} {a b : Nat} (h : cs.length = a + b) : cs = (cs.drop 0).take a ++ (cs.drop a).take b := by
  rw [List.drop_zero, List.take_of_length_le (l := cs.drop a) (by simp; omega), List.take_append_drop]
theorem opens_pair {α β : Type} {P : Program} {t : TypeId} {f0 f1 : Field} {k0 : Kd α} {k1 : Kd β} {Q0 : α → Prop} {Q1 : β → Prop} (ht : P.underlying t = some (.struct #[f0, f1])) (h0 : Opens P f0.type k0 Q0) (h1 : Opens P f1.type k1 Q1)
    (e0 : f0.offset = 0) (e1 : f1.offset = P.cellsOf f0.type) (e : P.cellsOf t = P.cellsOf f0.type + P.cellsOf f1.type) : Opens P t (Kd.pair k0 k1) (fun y => Q0 y.1 ∧ Q1 y.2) := by
  intro H enc w spare held fuel cs x h
  obtain ⟨y0, y1, n, _, hl, z0, z1⟩ := trod_struct2 ht h
  obtain ⟨u0, q0, g0⟩ := h0 enc w spare held n _ _ z0
  obtain ⟨u1, q1, g1⟩ := h1 enc w spare held n _ _ z1
  refine ⟨(u0, u1), ⟨_, _, ?_, q0, q1⟩, g0, g1⟩
  rw [e0, e1]
  exact cut2 (by rw [hl, e])
theorem cut4 {cs : List Value} {a b c d : Nat} (h : cs.length = a + (b + (c + d))) : cs = (cs.drop 0).take a ++ ((cs.drop a).take b ++ ((cs.drop (a + b)).take c ++ (cs.drop (a + b + c)).take d)) := by
  have e1 : (cs.drop (a + b)).take c ++ (cs.drop (a + b + c)).take d = cs.drop (a + b) := by
    rw [List.take_of_length_le (l := cs.drop (a + b + c)) (by simp; omega), ← List.drop_drop (i := c) (j := a + b), List.take_append_drop]
  rw [e1, ← List.drop_drop, List.take_append_drop, List.drop_zero, List.take_append_drop]
theorem opens_four {α β γ δ : Type} {P : Program} {t : TypeId} {f0 f1 f2 f3 : Field} {k0 : Kd α} {k1 : Kd β} {k2 : Kd γ} {k3 : Kd δ} {Q0 : α → Prop} {Q1 : β → Prop} {Q2 : γ → Prop} {Q3 : δ → Prop}
    (ht : P.underlying t = some (.struct #[f0, f1, f2, f3])) (h0 : Opens P f0.type k0 Q0) (h1 : Opens P f1.type k1 Q1) (h2 : Opens P f2.type k2 Q2) (h3 : Opens P f3.type k3 Q3)
    (e0 : f0.offset = 0) (e1 : f1.offset = P.cellsOf f0.type) (e2 : f2.offset = P.cellsOf f0.type + P.cellsOf f1.type) (e3 : f3.offset = P.cellsOf f0.type + P.cellsOf f1.type + P.cellsOf f2.type)
    (e : P.cellsOf t = P.cellsOf f0.type + (P.cellsOf f1.type + (P.cellsOf f2.type + P.cellsOf f3.type))) : Opens P t (Kd.pair k0 (Kd.pair k1 (Kd.pair k2 k3))) (fun y => Q0 y.1 ∧ Q1 y.2.1 ∧ Q2 y.2.2.1 ∧ Q3 y.2.2.2) := by
  intro H enc w spare held fuel cs x h
  obtain ⟨y0, y1, y2, y3, n, _, hl, z0, z1, z2, z3⟩ := Joins.trod_struct4 ht h
  obtain ⟨u0, q0, g0⟩ := h0 enc w spare held n _ _ z0
  obtain ⟨u1, q1, g1⟩ := h1 enc w spare held n _ _ z1
  obtain ⟨u2, q2, g2⟩ := h2 enc w spare held n _ _ z2
  obtain ⟨u3, q3, g3⟩ := h3 enc w spare held n _ _ z3
  refine ⟨(u0, u1, u2, u3), ⟨_, _, ?_, q0, _, _, rfl, q1, _, _, rfl, q2, q3⟩, g0, g1, g2, g3⟩
  rw [e0, e1, e2, e3]
  exact cut4 (by rw [hl, e])
theorem opens_iso {α β : Type} {P : Program} {t : TypeId} {k : Kd α} {Q : α → Prop} {f : β → α} (g : α → β) (hg : ∀ x, f (g x) = x) (h : Opens P t k Q) : Opens P t (Kd.iso k f) (fun y => Q (f y)) := by
  intro H enc w spare held fuel cs x hx
  obtain ⟨y, hy, hq⟩ := h enc w spare held fuel cs x hx
  refine ⟨g y, ?_, by show Q (f (g y)); rw [hg]; exact hq⟩
  show k.K w (f (g y)) cs
  rw [hg]
  exact hy
/-- A slice inside a value: its length too. -/
theorem opens_sliceL {α : Type} {P : Program} {t e : TypeId} {d : Kd α} {Q : α → Prop} (e' : Nat) (ht : P.underlying t = some (.slice e)) (hd : Opens P e d Q) (hs : d.sz = P.cellsOf e) :
    Opens P t (Kd.slice e' d) (fun xs => xs.length ≤ 9223372036854775807 ∧ ∀ x ∈ xs, Q x) := by
  intro H enc w spare held fuel cs x h
  obtain ⟨xs, hK, hq⟩ := opens_slice e' ht hd hs enc w spare held fuel cs x h
  refine ⟨xs, hK, ?_, hq⟩
  obtain ⟨A', c, _, _, hC⟩ := hK
  exact hC.2.1
/-- A slice that came in. -/
theorem slice_of {α : Type} {P : Program} {t e' : TypeId} {d : Kd α} {Q : List α → Prop} (hd : Opens P t (Kd.slice e' d) Q) {H : Type} {enc : TypeId × Value → H} {W : World} {A : Option Addr} {len cap : Nat} {dd : DataW H} {p : List MemPlace}
    (h : DataW.Trod enc P W 0 (fun _ => true) true t (.slice A len cap) dd p) : ∃ xs : List α, xs.length = len ∧ len ≤ cap ∧ d.C W A xs.length xs ∧ len ≤ 9223372036854775807 ∧ Q xs := by
  obtain ⟨fuel, hf⟩ := h
  obtain ⟨xs, ⟨A', c, e, hl, hC⟩, hq⟩ := hd enc W _ _ fuel _ _ hf
  have e2 : Value.slice A len cap = Value.slice A' xs.length c := by simpa [Value.cells] using e
  injection e2 with e3 e4 e5
  subst e3 e4 e5
  exact ⟨xs, rfl, hl, hC, hC.2.1, hq⟩
/-- A struct by value. -/
theorem agg_of {α : Type} {P : Program} {t : TypeId} {k : Kd α} {Q : α → Prop} (hd : Opens P t k Q) {H : Type} {enc : TypeId × Value → H} {W : World} {cs : Array Value} {dd : DataW H} {p : List MemPlace}
    (h : DataW.Trod enc P W 0 (fun _ => true) true t (.agg cs) dd p) : ∃ y : α, k.K W y cs.toList ∧ Q y := by
  obtain ⟨fuel, hf⟩ := h
  obtain ⟨y, hy, hq⟩ := hd enc W _ _ fuel _ _ hf
  exact ⟨y, by simpa [Value.cells] using hy, hq⟩
theorem array_of {cs : Array Value} {l : List Value} (h : cs.toList = l) : cs = l.toArray := by
  rw [← h]
theorem vars_len {H : Type} {enc : TypeId × Value → H} {P : Program} {w : World} {sp : Nat → Bool} : ∀ {ns : List String} {gs : List (DataW H)} {ps : List MemPlace}, DataW.TrodVars enc P w sp ns gs ps → gs.length = ns.length
  | [], [], _, _ => rfl
  | [], _ :: _, _, h => h.elim
  | _ :: _, [], _, h => h.elim
  | _ :: ns, _ :: ds, ps, h => by
    obtain ⟨_, _, _, _, _, _, _, _, _, _, hs, _⟩ := h
    simp [vars_len hs]
theorem one_of_len {α : Type} {l : List α} (h : l.length = 1) : ∃ a, l = [a] := by
  match l, h with
  | [a], _ => exact ⟨a, rfl⟩

/-! ### The cells of a listed table, out of its datum -/
def flatD {H : Type} : Nat → DataW H → List Value
  | 0, _ => []
  | _ + 1, .lit (.int k n) => [.int k n]
  | _ + 1, .lit (.bool b) => [.bool b]
  | _ + 1, .lit (.string l) => [.string ⟨l.toArray⟩]
  | n + 1, .agg ds => ds.flatMap (flatD n)
  | _ + 1, _ => []
/-- The fields lie one behind the other, from 'at' to the end. -/
def inRow (P : Program) : Nat → List Field → Nat → Bool
  | a, [], e => a == e
  | a, f :: fs, e => f.offset == a && inRow P (a + P.cellsOf f.type) fs e
def plainT (P : Program) : Nat → TypeId → Bool
  | 0, _ => false
  | n + 1, t =>
    match P.underlying t with
    | some .bool => true
    | some (.int _) => true
    | some .string => true
    | some (.struct fs) => inRow P 0 fs.toList (P.cellsOf t) && fs.toList.all fun f => plainT P n f.type
    | some (.array m e) => plainT P n e && (P.cellsOf t == m * P.cellsOf e)
    | _ => false
theorem rows_concat {β : Type} {F : β → List Value} {c : Nat} : ∀ (m : Nat) (cs : List Value) (xs : List β), cs.length = m * c → xs.length = m →
    (∀ i y, xs[i]? = some y → (cs.drop (i * c)).take c = F y) → cs = xs.flatMap F
  | 0, cs, xs, hl, hx, _ => by
    have : cs = [] := List.eq_nil_of_length_eq_zero (by simpa using hl)
    have : xs = [] := List.eq_nil_of_length_eq_zero hx
    simp_all
  | m + 1, cs, [], hl, hx, _ => by simp at hx
  | m + 1, cs, y :: ys, hl, hx, h => by
    have h0 := h 0 y rfl
    simp only [Nat.zero_mul, List.drop_zero] at h0
    have ih := rows_concat (c := c) (F := F) m (cs.drop c) ys (by rw [List.length_drop, hl, Nat.succ_mul]; omega) (by simpa using hx) (fun i z hz => by
      have := h (i + 1) z (by simpa using hz)
      rw [List.drop_drop]
      rw [show c + i * c = (i + 1) * c by rw [Nat.succ_mul]; omega]
      exact this)
    rw [List.flatMap_cons, ← h0, ← ih, List.take_append_drop]
theorem fields_concat {β : Type} {P : Program} {F : β → List Value} {e : Nat} : ∀ (fs : List Field) (a : Nat) (cs : List Value) (xs : List β), inRow P a fs e = true → a ≤ cs.length → cs.length = e → xs.length = fs.length →
    (∀ (i : Nat) (f : Field) (y : β), fs[i]? = some f → xs[i]? = some y → (cs.drop f.offset).take (P.cellsOf f.type) = F y) → cs.drop a = xs.flatMap F
  | [], a, cs, xs, hr, ha, hl, hx, _ => by
    have e1 : a = e := by simpa [inRow] using hr
    have : xs = [] := List.eq_nil_of_length_eq_zero hx
    subst this
    rw [List.drop_eq_nil_of_le (by omega)]
    rfl
  | f :: fs, a, cs, [], hr, ha, hl, hx, _ => by simp at hx
  | f :: fs, a, cs, y :: ys, hr, ha, hl, hx, h => by
    simp only [inRow, Bool.and_eq_true, beq_iff_eq] at hr
    obtain ⟨ho, hr⟩ := hr
    have h0 := h 0 f y rfl rfl
    rw [ho] at h0
    have hle : ∀ (gs : List Field) (b : Nat), inRow P b gs e = true → b ≤ e := by
      intro gs
      induction gs with
      | nil => intro b hb; have : b = e := by simpa [inRow] using hb
               omega
      | cons g gs ih => intro b hb; simp only [inRow, Bool.and_eq_true] at hb; have := ih _ hb.2; omega
    have hb := hle fs _ hr
    have ih := fields_concat fs (a + P.cellsOf f.type) cs ys hr (by omega) hl (by simpa using hx) (fun i g z hg hz => h (i + 1) g z (by simpa using hg) (by simpa using hz))
    rw [List.flatMap_cons, ← h0, ← ih, ← List.drop_drop, List.take_append_drop]
theorem flat_cells {H : Type} {enc : TypeId × Value → H} {P : Program} {w : World} {base : Nat} {spare : Nat → Bool} {held : Bool} : ∀ (fuel : Nat) (t : TypeId) (m : Nat) (cs : List Value) (x : DataW H × List MemPlace), plainT P m t = true → m ≤ fuel →
    DataW.trod enc P w base spare held fuel t cs = some x → cs = flatD m x.1
  | 0, _, 0, _, _, hp, _, _ => by simp [plainT] at hp
  | 0, _, m + 1, _, _, _, hm, _ => by omega
  | fuel + 1, t, 0, cs, x, hp, _, _ => by simp [plainT] at hp
  | fuel + 1, t, m + 1, cs, x, hp, hm, h => by
    unfold plainT at hp
    cases hu : P.underlying t with
    | none => rw [hu] at hp; simp at hp
    | some d =>
      rw [hu] at hp
      cases d with
      | bool =>
        obtain ⟨b, rfl, rfl⟩ := DataW.trod_bool hu h
        rfl
      | int k =>
        obtain ⟨b, rfl, rfl, _⟩ := DataW.trod_int hu h
        rfl
      | string =>
        obtain ⟨b, rfl, rfl, _⟩ := DataW.trod_string hu h
        simp [flatD]
      | struct fs =>
        simp only [Bool.and_eq_true, List.all_eq_true] at hp
        obtain ⟨xs, n, hn, rfl, hl, hlen, hf⟩ := DataW.trod_struct hu h
        obtain rfl : fuel = n := by omega
        simp only [flatD, List.flatMap_map]
        refine (fields_concat (F := fun y => flatD m y.1) fs.toList 0 cs xs hp.1 (Nat.zero_le _) hl (by simpa using hlen) ?_)
        intro i f y hfi hy
        have hfi' : fs[i]? = some f := by simpa using hfi
        have := hf i f hfi'
        rw [hy] at this
        exact flat_cells fuel f.type m _ y (hp.2 f (List.mem_of_getElem? hfi)) (by omega) this
      | array len e =>
        simp only [Bool.and_eq_true, beq_iff_eq] at hp
        obtain ⟨xs, n, hn, rfl, hl, hlen, hel⟩ := DataW.trod_array hu h
        obtain rfl : fuel = n := by omega
        simp only [flatD, List.flatMap_map]
        refine rows_concat (c := P.cellsOf e) (F := fun y => flatD m y.1) len cs xs (by rw [hl, hp.2]) hlen ?_
        intro i y hy
        have hi : i < len := by
          have := (List.getElem?_eq_some_iff.1 hy).1
          omega
        have := hel i hi
        rw [hy] at this
        exact flat_cells fuel e m _ y hp.1 (by omega) this
      | _ => simp at hp
theorem map_get {α : Type} {f : α → Value} (l : List α) (d : α) {i : Nat} (h : i < l.length) : (l.map f)[i]? = some (f (l.getD i d)) := by
  rw [List.getElem?_map, List.getElem?_eq_getElem h, List.getD_eq_getElem?_getD, List.getElem?_eq_getElem h]
  rfl
end Go.Proofs.Ytopibbgclbdigaa.Y
