/-
  Plain lemmas on the models, part 1.
-/
import Derived.Test.YtefhoiablidajaaDoorDcL1
namespace Go.Proofs.Tryd
open Go.Av
set_option maxRecDepth 100000
set_option linter.unusedSimpArgs false
set_option linter.unusedVariables false

theorem b10' (b : UInt8) : (((b).toNat : Int) == 10) = (b == 10) := by
  cases h : (b == 10) with
  | true => have := eq_of_beq h; subst this; rfl
  | false =>
    have hne : b ≠ 10 := by simpa using h
    have : ¬ b.toNat = 10 := fun e => hne (UInt8.toNat.inj e)
    simp; omega

theorem plain4_l (N : Nat) (t : List UInt8) (ht : t.length ≤ maxLen) : ∀ (n i : Nat), t.length - i < n → i ≤ t.length → m_spec_l4Plain_l1 N n (t, (i : Int)) = some (!(t.drop i).contains 10) := by
  intro n
  induction n with
  | zero => intro i h; omega
  | succ n ih =>
    intro i hn hi
    rw [m_spec_l4Plain_l1]
    by_cases h : i < t.length
    · simp only [lt_true h, cond_true, ix_nat h, Option.bind_some, b10', step64 h ht]
      rw [ih (i + 1) (by omega) (by omega), drop_cons h, List.contains_cons]
      by_cases he : t[i] = 10
      · simp [he]
      · have h1 : (t[i] == 10) = false := by simpa using he
        have h2 : ((10 : UInt8) == t[i]) = false := by simpa using fun e => he e.symm
        rw [h1, h2, cond_false, Bool.false_or]
    · simp only [lt_false h, cond_false]
      rw [drop_nil h]
      rfl

theorem plain4_is (N : Nat) (t : List UInt8) (hN : t.length < N) (ht : t.length ≤ maxLen) : m_spec_l4Plain N t = some (!t.contains 10) := by
  unfold m_spec_l4Plain
  have := plain4_l N t ht N 0 (by omega) (by omega)
  simpa using this

theorem indexByte_mem (l : List UInt8) (c : UInt8) : decide (Go.Lib.indexByte l c ≥ 0) = l.contains c := by
  induction l with
  | nil => rfl
  | cons b l ih =>
    rw [List.contains_cons]
    unfold Go.Lib.indexByte
    by_cases h : (b == c) = true
    · have : (c == b) = true := by have := eq_of_beq h; subst this; simp
      simp [h, this]
    · have hf : (b == c) = false := by simpa using h
      have hf2 : (c == b) = false := by
        have : ¬ b = c := by simpa using hf
        simpa using fun e => this e.symm
      rw [hf, hf2, Bool.false_or, ← ih]
      have hge := Go.Lib.indexByte_ge l c
      simp only [Bool.false_eq_true, if_false]
      split
      · rename_i he
        have : Go.Lib.indexByte l c = -1 := by simpa using he
        rw [this]
      · rename_i he
        have : ¬ Go.Lib.indexByte l c = -1 := by simpa using he
        have h1 : Go.Lib.indexByte l c ≥ 0 := by omega
        have h2 : Go.Lib.indexByte l c + 1 ≥ 0 := by omega
        simp [h1, h2]

theorem contains_is (t : List UInt8) : m_strings_Contains t = some (t.contains 10) := by
  have h0 : m_stringslite_Index t = some (Go.Lib.indexByte t 10) := by
    unfold m_stringslite_Index
    by_cases h : (([10] : List UInt8) == t) = true
    · have := eq_of_beq h
      subst this
      rfl
    · have hf : (([10] : List UInt8) == t) = false := by simpa using h
      rw [hf, cond_false]
      rfl
  unfold m_strings_Contains m_strings_Index
  rw [h0, Option.bind_some, Option.bind_some, indexByte_mem]

theorem within_is (a b c : Int) : m_impl_within a b c = some (decide (a ≥ b) && decide (a ≤ c)) := by
  unfold m_impl_within
  by_cases h : a ≥ b <;> simp [h]

theorem l1In_is (a b c : Int) : m_spec_l1In a b c = some (decide (a ≥ b) && decide (a ≤ c)) := by
  unfold m_spec_l1In
  by_cases h : a ≥ b <;> simp [h]

def docN (x : SDNode) : Bool :=
  bif (!(x.Kind == 1) && !(x.Text == [])) || (!(x.Kind == 4) && !(x.N == 0)) then false
  else bif x.Kind == 1 then !x.Text.contains 10 && ((x.Kids.length : Int) == 0)
  else bif x.Kind == 2 || x.Kind == 3 then ((x.Kids.length : Int) == 0)
  else bif x.Kind == 4 then (decide (x.N ≥ 0) && decide (x.N ≤ 40)) && ((x.Kids.length : Int) == 1)
  else bif x.Kind == 5 then ((x.Kids.length : Int) == 1) else (x.Kind == 6)

theorem docN_spec (N : Nat) (x : SDNode) (hN : x.Text.length < N) (ht : x.Text.length ≤ maxLen) : m_spec_l15Node N x = some (docN x) := by
  unfold m_spec_l15Node m_spec_l15Node_k1 docN
  simp only [plain4_is N _ hN ht, l1In_is, bne]
  generalize (x.Kind == 1) = k1
  generalize (x.Kind == 2) = k2
  generalize (x.Kind == 3) = k3
  generalize (x.Kind == 4) = k4
  generalize (x.Kind == 5) = k5
  generalize (x.Kind == 6) = k6
  generalize (x.Text == []) = t
  generalize (x.N == 0) = n
  cases k1 <;> cases k2 <;> cases k3 <;> cases k4 <;> cases k5 <;> cases t <;> cases n <;> first | rfl | (cases (decide (x.N ≥ 0)) <;> cases (decide (x.N ≤ 40)) <;> rfl) | (cases x.Text.contains 10 <;> rfl)

theorem docN_impl (x : SDNode) : m_impl_docNodeOk x = some (docN x) := by
  unfold m_impl_docNodeOk m_impl_docNodeOk_k1 docN
  simp only [contains_is, within_is, bne]
  generalize (x.Kind == 1) = k1
  generalize (x.Kind == 2) = k2
  generalize (x.Kind == 3) = k3
  generalize (x.Kind == 4) = k4
  generalize (x.Kind == 5) = k5
  generalize (x.Kind == 6) = k6
  generalize (x.Text == []) = t
  generalize (x.N == 0) = n
  cases k1 <;> cases k2 <;> cases k3 <;> cases k4 <;> cases k5 <;> cases t <;> cases n <;> first | rfl | (cases (decide (x.N ≥ 0)) <;> cases (decide (x.N ≤ 40)) <;> rfl) | (cases x.Text.contains 10 <;> rfl) | (cases k6 <;> rfl)

/-! ### where parts begin: both reckon the same -/
def kidsD (a : List SDNode) : List (List Int) := a.map (·.Kids)

theorem kidsD_get {a : List SDNode} {i : Nat} (h : i < a.length) : (kidsD a).drop i = a[i].Kids :: (kidsD a).drop (i + 1) := by
  have h' : i < (kidsD a).length := by simpa [kidsD] using h
  rw [drop_cons h']
  simp [kidsD]

theorem dspecStarts_l2 (N : Nat) (kb : (List SDNode × Int × List Int) → Option (List Int × Bool)) (a : List SDNode) (i : Nat) (hi : i < a.length) (hi2 : i ≤ 100000) (out : List Int) (ho : out.length = i) (hl : Low out) (hk : a[i].Kids.length ≤ 1048576) :
    ∀ (n j : Nat) (at_ : Int), j < n → j ≤ a[i].Kids.length → 0 ≤ at_ → at_ ≤ i →
      m_spec_l15Starts_l2 N kb n (a, (i : Int), out, at_, (j : Int) - 1) = match walk out at_ (a[i].Kids.take j).reverse with
        | none => some ([], false)
        | some s => kb (a, ((i + 1 : Nat) : Int), out ++ [s]) := by
  intro n
  induction n with
  | zero => intro j at_ h; omega
  | succ n ih =>
    intro j at_ hn hj h0 h1
    rw [m_spec_l15Starts_l2]
    cases j with
    | zero =>
      have : decide (((0 : Nat) : Int) - 1 ≥ 0) = false := by simp
      simp only [this, cond_false, List.take_zero, List.reverse_nil, walk]
      rw [app_some (by simp [ho]; omega), Option.bind_some, wrap64 (by omega) (by omega)]
      rfl
    | succ j =>
      have hjk : j < a[i].Kids.length := by omega
      rw [take_rev hjk]
      simp only [nat_ge, cond_true, pred_nat, ix_nat hi, ix_nat hjk, Option.bind_some]
      rw [wrap64 (n := at_ - 1) (by omega) (by omega)]
      unfold walk
      by_cases hc : a[i].Kids[j] ≠ at_ - 1
      · have h2 : (a[i].Kids[j] != at_ - 1) = true := by simpa using hc
        rw [h2, cond_true, Option.bind_some, cond_true, if_pos (.inr hc)]
      · have h2 : (a[i].Kids[j] != at_ - 1) = false := by simpa using hc
        rw [h2, cond_false, Option.bind_some]
        by_cases hz : at_ = 0
        · have h3 : (at_ == 0) = true := by simpa using hz
          rw [h3, cond_true, if_pos (.inl hz)]
        · have h3 : (at_ == 0) = false := by simpa using hz
          rw [h3, cond_false, if_neg (fun h => h.elim hz hc)]
          have hlt : (at_ - 1).toNat < out.length := by omega
          have hx : ix out (at_ - 1) = some out[(at_ - 1).toNat] := by
            have := ix_nat hlt
            rwa [Int.toNat_of_nonneg (by omega)] at this
          rw [hx, Option.bind_some, List.getElem?_eq_getElem hlt]
          have hlow := hl _ _ (List.getElem?_eq_getElem hlt)
          rw [wrap64 (by omega) (by omega)]
          exact ih j _ (by omega) (by omega) hlow.1 (by omega)

theorem dspecStarts_l1 (N : Nat) (a : List SDNode) (hN : 2000001 < N) (ha : a.length ≤ 100000) (hk : ∀ x, x ∈ a → x.Kids.length ≤ 1048576) : ∀ (n i : Nat) (out : List Int), a.length - i < n → i ≤ a.length → out.length = i → Low out →
    m_spec_l15Starts_l1 N n (a, (i : Int), out) = match starts ((kidsD a).drop i) out with
      | none => some ([], false)
      | some r => some (r, true) := by
  intro n
  induction n with
  | zero => intro i out h; omega
  | succ n ih =>
    intro i out hn hi ho hl
    rw [m_spec_l15Starts_l1]
    by_cases h : i < a.length
    · have hkl := hk _ (List.getElem_mem h)
      simp only [lt_true h, cond_true, ix_nat h, Option.bind_some]
      rw [wrap64 (n := (a[i].Kids.length : Int) - 1) (by omega) (by omega), dspecStarts_l2 N _ a i h (by omega) out ho hl hkl N _ _ (by omega) (Nat.le_refl _) (by omega) (by omega), List.take_length, kidsD_get h, starts, ho]
      cases hw : walk out (i : Int) a[i].Kids.reverse with
      | none => rfl
      | some s =>
        have hs := walk_le hl _ (by omega) hw
        simp only [Option.bind_some]
        exact ih (i + 1) _ (by omega) (by omega) (by simp [ho]) (hl.snoc hs.1 (by omega))
    · simp only [lt_false h, cond_false]
      have : (kidsD a).drop i = [] := drop_nil (by simpa [kidsD] using h)
      rw [this]
      rfl

theorem dimplStarts_l2 (N : Nat) (kb : (List SDNode × Int × List Int) → Option (List Int × Bool)) (a : List SDNode) (i : Nat) (hi : i < a.length) (hi2 : i ≤ 100000) (out st : List Int) (ho : out.length = i) (hst : st.take i = out) (hsl : st.length = a.length) (hl : Low out) (hk : a[i].Kids.length ≤ 1048576) :
    ∀ (n j : Nat) (at_ : Int), j < n → j ≤ a[i].Kids.length → 0 ≤ at_ → at_ ≤ i →
      m_impl_docStarts_l2 N kb n (a, (i : Int), st, a[i], at_ - 1, (j : Int) - 1) = match walk out at_ (a[i].Kids.take j).reverse with
        | none => some ([], false)
        | some s => kb (a, ((i + 1 : Nat) : Int), st.set i s) := by
  intro n
  induction n with
  | zero => intro j at_ h; omega
  | succ n ih =>
    intro j at_ hn hj h0 h1
    have hil : i < st.length := by omega
    rw [m_impl_docStarts_l2]
    cases j with
    | zero =>
      have : decide (((0 : Nat) : Int) - 1 ≥ 0) = false := by simp
      simp only [this, cond_false, List.take_zero, List.reverse_nil, walk]
      rw [ix_nat hil, Option.bind_some, wrap64 (n := at_ - 1 + 1) (by omega) (by omega), upd_nat hil, Option.bind_some, wrap64 (by omega) (by omega), Int.sub_add_cancel]
      rfl
    | succ j =>
      have hjk : j < a[i].Kids.length := by omega
      rw [take_rev hjk]
      simp only [nat_ge, cond_true, pred_nat, ix_nat hjk, Option.bind_some]
      unfold walk
      by_cases hz : at_ = 0
      · have h3 : decide (at_ - 1 < 0) = true := by simp; omega
        rw [h3, cond_true, Option.bind_some, cond_true, if_pos (.inl hz)]
      · have h3 : decide (at_ - 1 < 0) = false := by simp; omega
        rw [h3, cond_false, Option.bind_some]
        by_cases hc : a[i].Kids[j] ≠ at_ - 1
        · have h2 : (a[i].Kids[j] != at_ - 1) = true := by simpa using hc
          rw [h2, cond_true, if_pos (.inr hc)]
        · have h2 : (a[i].Kids[j] != at_ - 1) = false := by simpa using hc
          rw [h2, cond_false, if_neg (fun h => h.elim hz hc)]
          have hlt : (at_ - 1).toNat < out.length := by omega
          have hlt2 : (at_ - 1).toNat < st.length := by omega
          have hx : ix st (at_ - 1) = some st[(at_ - 1).toNat] := by
            have := ix_nat hlt2
            rwa [Int.toNat_of_nonneg (by omega)] at this
          have he : out[(at_ - 1).toNat]? = some st[(at_ - 1).toNat] := by
            rw [← hst, List.getElem?_take, if_pos (by omega), List.getElem?_eq_getElem hlt2]
          rw [hx, Option.bind_some, he]
          have hlow := hl _ _ he
          rw [wrap64 (n := st[(at_ - 1).toNat] - 1) (by omega) (by omega), wrap64 (by omega) (by omega)]
          exact ih j _ (by omega) (by omega) hlow.1 (by omega)

/-- the last part begins at the first node -/
def drootAt (r : List Int) (n : Nat) : Bool := r[n - 1]? == some 0

theorem dimplStarts_l1 (N : Nat) (a : List SDNode) (hN : 2000001 < N) (ha : a.length ≤ 100000) (hk : ∀ x, x ∈ a → x.Kids.length ≤ 1048576) (h1 : 1 ≤ a.length) : ∀ (n i : Nat) (out st : List Int), a.length - i < n → i ≤ a.length → out.length = i → st.take i = out → st.length = a.length → Low out →
    ∃ st', m_impl_docStarts_l1 N n (a, (i : Int), st) = some (st', match starts ((kidsD a).drop i) out with
      | none => false
      | some r => drootAt r a.length) := by
  intro n
  induction n with
  | zero => intro i out st h; omega
  | succ n ih =>
    intro i out st hn hi ho hst hsl hl
    rw [m_impl_docStarts_l1]
    by_cases h : i < a.length
    · have hkl := hk _ (List.getElem_mem h)
      simp only [lt_true h, cond_true, ix_nat h, Option.bind_some]
      rw [wrap64 (n := (a[i].Kids.length : Int) - 1) (by omega) (by omega), wrap64 (n := (i : Int) - 1) (by omega) (by omega), dimplStarts_l2 N _ a i h (by omega) out st ho hst hsl hl hkl N _ _ (by omega) (Nat.le_refl _) (by omega) (by omega), List.take_length, kidsD_get h, starts, ho]
      cases hw : walk out (i : Int) a[i].Kids.reverse with
      | none => exact ⟨[], rfl⟩
      | some s =>
        have hs := walk_le hl _ (by omega) hw
        simp only [Option.bind_some]
        refine ih (i + 1) _ _ (by omega) (by omega) (by simp [ho]) ?_ (by simpa using hsl) (hl.snoc hs.1 (by omega))
        rw [List.take_add_one, List.take_set_of_le (Nat.le_refl i), hst, List.getElem?_set_self (by omega)]
        rfl
    · simp only [lt_false h, cond_false]
      have : (kidsD a).drop i = [] := drop_nil (by simpa [kidsD] using h)
      rw [this]
      have hia : i = a.length := by omega
      have hso : st = out := by rw [← hst, List.take_of_length_le (by omega)]
      have hlt : a.length - 1 < st.length := by omega
      have hx : ix st ((a.length : Int) - 1) = some st[a.length - 1] := by
        have := ix_nat hlt
        rwa [show ((a.length - 1 : Nat) : Int) = (a.length : Int) - 1 by omega] at this
      rw [wrap64 (n := (a.length : Int) - 1) (by omega) (by omega), hx, Option.bind_some]
      refine ⟨st, ?_⟩
      simp only [starts, drootAt, ← hso, List.getElem?_eq_getElem hlt]
      congr 2

/-- what both say of a document -/
def docB (a : List SDNode) : Bool :=
  (decide (1 ≤ a.length) && decide (a.length ≤ 4000)) && a.all docN && (match starts (kidsD a) [] with
    | none => false
    | some r => drootAt r a.length)

theorem dspecOk_l (N : Nat) (a : List SDNode) (hN : 2000001 < N) (ha : a.length ≤ 4000) (h1 : 1 ≤ a.length) (hs : ∀ x, x ∈ a → smDNode x) : ∀ (n i : Nat), a.length - i < n → i ≤ a.length →
    m_spec_DocOk_l1 N n (a, (i : Int)) = some ((a.drop i).all docN && (match starts (kidsD a) [] with | none => false | some r => drootAt r a.length)) := by
  intro n
  induction n with
  | zero => intro i h; omega
  | succ n ih =>
    intro i hn hi
    rw [m_spec_DocOk_l1]
    by_cases h : i < a.length
    · have hx := hs _ (List.getElem_mem h)
      unfold smDNode at hx
      simp only [lt_true h, cond_true, ix_nat h, Option.bind_some, docN_spec N a[i] (by omega) (by simp only [maxLen]; omega), step64 h (by simp only [maxLen]; omega)]
      rw [drop_cons h, List.all_cons]
      cases hd : docN a[i] with
      | false => rfl
      | true => simpa using ih (i + 1) (by omega) (by omega)
    · simp only [lt_false h, cond_false]
      rw [drop_nil h]
      have := dspecStarts_l1 N a hN (by omega) (fun x hx => by have := hs x hx; unfold smDNode at this; omega) N 0 [] (by omega) (by omega) rfl (fun j s h => by simp at h)
      have e : m_spec_l15Starts N a = m_spec_l15Starts_l1 N N (a, ((0 : Nat) : Int), []) := rfl
      rw [e, this, List.drop_zero]
      cases hst : starts (kidsD a) [] with
      | none => rfl
      | some r =>
        obtain ⟨⟨m, hm, hml⟩, _, _⟩ := starts_spec _ (fun j s h => by simp at h) hst
        have hrl : r.length = a.length := by rw [hm]; simp [hml, kidsD]
        have hlt : a.length - 1 < r.length := by omega
        have hx : ix r ((a.length : Int) - 1) = some r[a.length - 1] := by
          have := ix_nat hlt
          rwa [show ((a.length - 1 : Nat) : Int) = (a.length : Int) - 1 by omega] at this
        simp only [Option.bind_some, cond_true]
        rw [wrap64 (n := (a.length : Int) - 1) (by omega) (by omega), hx, Option.bind_some, Option.bind_some]
        simp only [drootAt, List.getElem?_eq_getElem hlt, List.all_nil, Bool.true_and]
        congr 1

theorem dspecOk_is (N : Nat) (a : List SDNode) (hN : 2000001 < N) (ha : a.length ≤ 1048576) (hs : ∀ x, x ∈ a → smDNode x) : m_spec_DocOk N a = some (docB a) := by
  unfold m_spec_DocOk docB
  rw [l1In_is, Option.bind_some]
  by_cases h1 : 1 ≤ a.length
  · by_cases h2 : a.length ≤ 4000
    · have e1 : decide ((a.length : Int) ≥ 1) = true := by simp; omega
      have e2 : decide ((a.length : Int) ≤ 4000) = true := by simp; omega
      have := dspecOk_l N a hN h2 h1 hs N 0 (by omega) (by omega)
      rw [List.drop_zero] at this
      simp only [e1, e2, Bool.and_self, Bool.not_true, cond_false, h1, h2, decide_true, Bool.true_and]
      exact this
    · have e2 : decide ((a.length : Int) ≤ 4000) = false := by simp; omega
      simp [e2, h2]
  · have e1 : decide ((a.length : Int) ≥ 1) = false := by simp; omega
    simp [e1, h1]

theorem dimplOk_l (N : Nat) (a : List SDNode) (hN : 2000001 < N) (ha : a.length ≤ 1048576) (hs : ∀ x, x ∈ a → smDNode x) : ∀ (n i : Nat), a.length - i < n → i ≤ a.length →
    m_impl_DocOk_l1 N n (a, (i : Int)) = some ((decide (1 ≤ a.length) && decide (a.length ≤ 4000)) && (a.drop i).all docN && (match starts (kidsD a) [] with | none => false | some r => drootAt r a.length)) := by
  intro n
  induction n with
  | zero => intro i h; omega
  | succ n ih =>
    intro i hn hi
    rw [m_impl_DocOk_l1]
    by_cases h : i < a.length
    · simp only [lt_true h, cond_true, ix_nat h, Option.bind_some, docN_impl, step64 h (by simp only [maxLen]; omega)]
      rw [drop_cons h, List.all_cons]
      cases hd : docN a[i] with
      | false => simp
      | true => simpa using ih (i + 1) (by omega) (by omega)
    · simp only [lt_false h, cond_false]
      rw [drop_nil h]
      unfold m_impl_docStarts
      rw [within_is, Option.bind_some]
      by_cases h1 : 1 ≤ a.length
      · by_cases h2 : a.length ≤ 4000
        · have e1 : decide ((a.length : Int) ≥ 1) = true := by simp; omega
          have e2 : decide ((a.length : Int) ≤ 4000) = true := by simp; omega
          obtain ⟨st', hst'⟩ := dimplStarts_l1 N a hN (by omega) (fun x hx => by have := hs x hx; unfold smDNode at this; omega) h1 N 0 [] (List.replicate a.length 0) (by omega) (by omega) rfl (by simp) (by simp) (fun j s h => by simp at h)
          rw [List.drop_zero] at hst'
          simp only [e1, e2, Bool.and_self, Bool.not_true, cond_false]
          rw [mk_some (by omega) (by simp only [maxLen]; omega), Option.bind_some]
          have hst2 : m_impl_docStarts_l1 N N (a, 0, List.replicate a.length 0) = _ := hst'
          rw [hst2]
          simp [h1, h2]
        · have e2 : decide ((a.length : Int) ≤ 4000) = false := by simp; omega
          simp [e2, h2]
      · have e1 : decide ((a.length : Int) ≥ 1) = false := by simp; omega
        simp [e1, h1]

theorem dimplOk_is (N : Nat) (a : List SDNode) (hN : 2000001 < N) (ha : a.length ≤ 1048576) (hs : ∀ x, x ∈ a → smDNode x) : m_impl_DocOk N a = some (docB a) := by
  have := dimplOk_l N a hN ha hs N 0 (by omega) (by omega)
  rw [List.drop_zero] at this
  exact this

theorem docB_shape {a : List SDNode} (h : docB a = true) : (1 ≤ a.length ∧ a.length ≤ 4000) ∧ ∃ r, starts (kidsD a) [] = some r ∧ r.length = a.length ∧ Low r ∧ drootAt r a.length = true ∧
    ∀ (i : Nat) (hi : i < a.length), ∃ s, r[i]? = some s ∧ Go.Av.Kids r s (i : Int) a[i].Kids := by
  unfold docB at h
  simp only [Bool.and_eq_true, decide_eq_true_eq] at h
  obtain ⟨⟨h1, _⟩, h2⟩ := h
  refine ⟨h1, ?_⟩
  cases hst : starts (kidsD a) [] with
  | none => rw [hst] at h2; cases h2
  | some r =>
    rw [hst] at h2
    obtain ⟨⟨m, hm, hml⟩, hl, hk⟩ := starts_spec _ (fun j s h => by simp at h) hst
    refine ⟨r, rfl, by rw [hm]; simp [hml, kidsD], hl, h2, fun i hi => ?_⟩
    obtain ⟨s, h3, h4⟩ := hk i a[i].Kids (by simp [kidsD, hi])
    exact ⟨s, by simpa using h3, by simpa using h4⟩

theorem docB_kids {a : List SDNode} (h : docB a = true) (x : SDNode) (hx : x ∈ a) : ∀ k, k ∈ x.Kids → 0 ≤ k ∧ k < 4000 := by
  obtain ⟨⟨_, h1⟩, r, _, _, _, _, hk⟩ := docB_shape h
  obtain ⟨i, hi, rfl⟩ := List.getElem_of_mem hx
  obtain ⟨s, _, h4⟩ := hk i hi
  intro k hk
  have := h4.lt k hk
  omega
def swK (f t : Int) (x : SDNode) : SDNode := bif x.Kind == f then ⟨t, x.N, x.Text, x.Kids⟩ else x

theorem copyDoc_l (N : Nat) (f t : Int) (a : List SDNode) (ha : a.length ≤ 1048576) (hs : ∀ x, x ∈ a → smDNode x) : ∀ (n i : Nat) (out : List SDNode), a.length - i < n → i ≤ a.length → out.length = i →
    m_impl_copyDoc_l1 N n (f, t, a, (i : Int), out) = some (out ++ (a.drop i).map (swK f t)) := by
  intro n
  induction n with
  | zero => intro i out h; omega
  | succ n ih =>
    intro i out hn hi ho
    rw [m_impl_copyDoc_l1]
    by_cases h : i < a.length
    · have hx := hs _ (List.getElem_mem h)
      unfold smDNode at hx
      simp only [lt_true h, cond_true, ix_nat h, Option.bind_some, m_impl_copyDoc_k2, step64 h (by simp only [maxLen]; omega)]
      rw [app_some (by simp; omega), Option.bind_some, Option.bind_some, app_some (by simp; omega), app_some (by simp; omega), Option.bind_some, Option.bind_some, drop_cons h]
      cases hk : (a[i].Kind == f) with
      | true =>
        rw [cond_true, ih (i + 1) _ (by omega) (by omega) (by simp [ho])]
        simp only [List.map_cons, List.append_assoc, List.cons_append, List.nil_append, swK, hk, cond_true]
      | false =>
        rw [cond_false, ih (i + 1) _ (by omega) (by omega) (by simp [ho])]
        simp only [List.map_cons, List.append_assoc, List.cons_append, List.nil_append, swK, hk, cond_false]
    · simp only [lt_false h, cond_false]
      rw [drop_nil h]
      simp

theorem copyDoc_is (N : Nat) (f t : Int) (a : List SDNode) (hN : 1048577 < N) (ha : a.length ≤ 1048576) (hs : ∀ x, x ∈ a → smDNode x) : m_impl_copyDoc N a f t = some (a.map (swK f t)) := by
  have := copyDoc_l N f t a ha hs N 0 [] (by omega) (by omega) rfl
  rw [List.drop_zero, List.nil_append] at this
  exact this

theorem sw_small (f t : Int) (a : List SDNode) (hs : ∀ x, x ∈ a → smDNode x) : ∀ x, x ∈ a.map (swK f t) → smDNode x := by
  intro x hx
  obtain ⟨y, hy, rfl⟩ := List.mem_map.1 hx
  have := hs y hy
  unfold swK
  cases (y.Kind == f)
  · exact this
  · exact this


end Go.Proofs.Tryd
