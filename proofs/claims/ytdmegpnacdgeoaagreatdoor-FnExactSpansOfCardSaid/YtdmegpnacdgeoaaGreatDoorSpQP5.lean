/-
  Plain lemmas on the models, part 5.
-/
import Derived.Test.YtdmegpnacdgeoaaGreatDoorSpQP4
namespace Go.Proofs.Tryz
open Go.Av
set_option maxRecDepth 100000
set_option linter.unusedSimpArgs false
set_option linter.unusedVariables false

theorem fields_parts (N : Nat) (n : SNode) (h : ms_FieldsOk N n = some true) : ∃ lo hi, ms_l7Many n = some (lo, hi) ∧ ms_l7Op n = some true ∧ lo ≤ (n.Kids.length : Int) ∧ (n.Kids.length : Int) ≤ hi := by
  unfold ms_FieldsOk at h
  obtain ⟨⟨lo, hi⟩, h1, h⟩ := bind_some h
  obtain ⟨y6, h2, h⟩ := bind_some h
  obtain ⟨y13, h3, h⟩ := bind_some h
  cases h
  rcases cond_some h3 with ⟨_, h3⟩ | ⟨_, h3⟩
  · obtain ⟨r14, ho, h3⟩ := bind_some h3
    rcases cond_some h3 with ⟨hc, h3⟩ | ⟨_, h3⟩
    · subst hc
      obtain ⟨r15, _, h3⟩ := bind_some h3
      rcases cond_some h3 with ⟨_, h3⟩ | ⟨_, h3⟩
      · obtain ⟨r16, hl, h3⟩ := bind_some h3
        cases h3
        rw [l1In_is] at hl
        have hl := Option.some.inj hl
        simp only [Bool.and_eq_true, decide_eq_true_eq] at hl
        exact ⟨lo, hi, h1, ho, by omega, by omega⟩
      · cases h3
    · cases h3
  · cases h3

def Ar (n : SNode) : Prop :=
  (n.Kind = 1 ∨ n.Kind = 2 ∨ n.Kind = 3 ∨ n.Kind = 4 → n.Kids.length = 0) ∧ (n.Kind = 5 ∨ n.Kind = 13 → 1 ≤ n.Kids.length) ∧ (n.Kind = 6 ∨ n.Kind = 9 ∨ n.Kind = 10 ∨ n.Kind = 11 → n.Kids.length = 1) ∧
  (n.Kind = 12 ∨ n.Kind = 15 → n.Kids.length = 2) ∧ (n.Kind = 14 → n.Kids.length = 3)

theorem isBin_lv (o : Int) (h : ms_l7IsBin o = some true) : opLv o ≠ 0 := by
  have hk : ∀ b, ms_l7IsBin_k1 b = some b := fun b => by cases b <;> rfl
  unfold ms_l7IsBin at h
  simp only [hk] at h
  have hc : o = 60 ∨ o = 57 ∨ o = 58 ∨ o = 59 ∨ o = 55 ∨ o = 56 ∨ o = 99 ∨ o = 63 ∨ o = 48 ∨ o = 47 ∨ o = 50 ∨ o = 62 ∨ o = 49 ∨ o = 67 ∨ o = 46 ∨ o = 45 ∨ o = 44 := by
    have key : ∀ (c : Int) (x : Option Bool), (bif (o == c) then some (o == c) else x) = some true → o = c ∨ x = some true := fun c x h => by
      cases hoc : o == c with
      | true => exact .inl (by simpa using hoc)
      | false => rw [hoc] at h; exact .inr h
    rcases key _ _ h with e | h; · exact .inl e
    rcases key _ _ h with e | h; · simp [e]
    rcases key _ _ h with e | h; · simp [e]
    rcases key _ _ h with e | h; · simp [e]
    rcases key _ _ h with e | h; · simp [e]
    rcases key _ _ h with e | h; · simp [e]
    rcases key _ _ h with e | h; · simp [e]
    rcases key _ _ h with e | h; · simp [e]
    rcases key _ _ h with e | h; · simp [e]
    rcases key _ _ h with e | h; · simp [e]
    rcases key _ _ h with e | h; · simp [e]
    rcases key _ _ h with e | h; · simp [e]
    rcases key _ _ h with e | h; · simp [e]
    rcases key _ _ h with e | h; · simp [e]
    rcases key _ _ h with e | h; · simp [e]
    rcases key _ _ h with e | h; · simp [e]
    have := Option.some.inj h
    have e : o = 44 := by simpa using this
    simp [e]
  rcases hc with e | e | e | e | e | e | e | e | e | e | e | e | e | e | e | e | e <;> subst e <;> decide

theorem fieldsE (N : Nat) (n : SNode) (h : ms_FieldsOk N n = some true) (he : isE n.Kind = true) : Ar n ∧ lv n.Kind n.Op ≠ 0 := by
  obtain ⟨lo, hi, h1, h2, h3, h4⟩ := fields_parts N n h
  have hc : n.Kind = 1 ∨ n.Kind = 2 ∨ n.Kind = 3 ∨ n.Kind = 4 ∨ n.Kind = 5 ∨ n.Kind = 6 ∨ n.Kind = 7 ∨ n.Kind = 8 ∨ n.Kind = 9 ∨ n.Kind = 10 ∨ n.Kind = 11 ∨ n.Kind = 12 ∨ n.Kind = 13 ∨ n.Kind = 14 ∨ n.Kind = 15 := by
    unfold isE at he; simp only [Bool.and_eq_true, decide_eq_true_eq] at he; omega
  have many : ∀ (a b : Int), ms_l7Many n = some (a, b) → a ≤ (n.Kids.length : Int) ∧ (n.Kids.length : Int) ≤ b := fun a b hm => by
    rw [hm] at h1
    cases h1
    exact ⟨h3, h4⟩
  have val : ∀ (c : Int) (r : Int × Int), n.Kind = c → (∀ m : SNode, m.Kind = c → ms_l7Many m = some r) → r.1 ≤ (n.Kids.length : Int) ∧ (n.Kids.length : Int) ≤ r.2 := fun c r e hm => many _ _ (hm n e)
  have step : ∀ (c : Int), n.Kind = c → ms_l7Many n = ms_l7Many ⟨c, n.Op, n.Text, n.Other, n.Kids⟩ := fun c e => by
    obtain ⟨k, o, x, y, ks⟩ := n
    subst e; rfl
  have opS : n.Kind = 12 → ms_l7Op n = Option.bind (ms_l7IsBin n.Op) (fun r17 => some r17) := fun e => by
    obtain ⟨k, o, x, y, ks⟩ := n
    subst e; rfl
  unfold Ar
  rcases hc with e | e | e | e | e | e | e | e | e | e | e | e | e | e | e
  all_goals
    have hm := step _ e
    simp only [e]
  case inl =>
    have hq := many 0 0 (hm.trans rfl)
    refine ⟨⟨fun h => by omega, fun h => by omega, fun h => by omega, fun h => by omega, fun h => by omega⟩, ?_⟩
    intro h
    have h : (15 : Int) = 0 := h
    omega
  case inr.inl =>
    have hq := many 0 0 (hm.trans rfl)
    refine ⟨⟨fun h => by omega, fun h => by omega, fun h => by omega, fun h => by omega, fun h => by omega⟩, ?_⟩
    intro h
    have h : (15 : Int) = 0 := h
    omega
  case inr.inr.inl =>
    have hq := many 0 0 (hm.trans rfl)
    refine ⟨⟨fun h => by omega, fun h => by omega, fun h => by omega, fun h => by omega, fun h => by omega⟩, ?_⟩
    intro h
    have h : (15 : Int) = 0 := h
    omega
  case inr.inr.inr.inl =>
    have hq := many 0 0 (hm.trans rfl)
    refine ⟨⟨fun h => by omega, fun h => by omega, fun h => by omega, fun h => by omega, fun h => by omega⟩, ?_⟩
    intro h
    have h : (15 : Int) = 0 := h
    omega
  case inr.inr.inr.inr.inl =>
    have hq := many 1 6 (hm.trans rfl)
    refine ⟨⟨fun h => by omega, fun h => by omega, fun h => by omega, fun h => by omega, fun h => by omega⟩, ?_⟩
    intro h
    have h : (15 : Int) = 0 := h
    omega
  case inr.inr.inr.inr.inr.inl =>
    have hq := many 1 1 (hm.trans rfl)
    refine ⟨⟨fun h => by omega, fun h => by omega, fun h => by omega, fun h => by omega, fun h => by omega⟩, ?_⟩
    intro h
    have h : (14 : Int) = 0 := h
    omega
  case inr.inr.inr.inr.inr.inr.inl =>
    have hq := many 0 6 (hm.trans rfl)
    refine ⟨⟨fun h => by omega, fun h => by omega, fun h => by omega, fun h => by omega, fun h => by omega⟩, ?_⟩
    intro h
    have h : (15 : Int) = 0 := h
    omega
  case inr.inr.inr.inr.inr.inr.inr.inl =>
    have hq := many 0 6 (hm.trans rfl)
    refine ⟨⟨fun h => by omega, fun h => by omega, fun h => by omega, fun h => by omega, fun h => by omega⟩, ?_⟩
    intro h
    have h : (15 : Int) = 0 := h
    omega
  case inr.inr.inr.inr.inr.inr.inr.inr.inl =>
    have hq := many 1 1 (hm.trans rfl)
    refine ⟨⟨fun h => by omega, fun h => by omega, fun h => by omega, fun h => by omega, fun h => by omega⟩, ?_⟩
    intro h
    have h : (13 : Int) = 0 := h
    omega
  case inr.inr.inr.inr.inr.inr.inr.inr.inr.inl =>
    have hq := many 1 1 (hm.trans rfl)
    refine ⟨⟨fun h => by omega, fun h => by omega, fun h => by omega, fun h => by omega, fun h => by omega⟩, ?_⟩
    intro h
    have h : (13 : Int) = 0 := h
    omega
  case inr.inr.inr.inr.inr.inr.inr.inr.inr.inr.inl =>
    have hq := many 1 1 (hm.trans rfl)
    refine ⟨⟨fun h => by omega, fun h => by omega, fun h => by omega, fun h => by omega, fun h => by omega⟩, ?_⟩
    intro h
    have h : (11 : Int) = 0 := h
    omega
  case inr.inr.inr.inr.inr.inr.inr.inr.inr.inr.inr.inl =>
    have hq := many 2 2 (hm.trans rfl)
    refine ⟨⟨fun h => by omega, fun h => by omega, fun h => by omega, fun h => by omega, fun h => by omega⟩, ?_⟩
    have h5 := opS e
    rw [h2] at h5
    have h6 : ms_l7IsBin n.Op = some true := by
      cases hb : ms_l7IsBin n.Op with
      | none => rw [hb] at h5; cases h5
      | some v => rw [hb] at h5; cases h5; rfl
    exact isBin_lv n.Op h6
  case inr.inr.inr.inr.inr.inr.inr.inr.inr.inr.inr.inr.inl =>
    have hq := many 1 6 (hm.trans rfl)
    refine ⟨⟨fun h => by omega, fun h => by omega, fun h => by omega, fun h => by omega, fun h => by omega⟩, ?_⟩
    intro h
    have h : (5 : Int) = 0 := h
    omega
  case inr.inr.inr.inr.inr.inr.inr.inr.inr.inr.inr.inr.inr.inl =>
    have hq := many 3 3 (hm.trans rfl)
    refine ⟨⟨fun h => by omega, fun h => by omega, fun h => by omega, fun h => by omega, fun h => by omega⟩, ?_⟩
    intro h
    have h : (2 : Int) = 0 := h
    omega
  case inr.inr.inr.inr.inr.inr.inr.inr.inr.inr.inr.inr.inr.inr =>
    have hq := many 2 2 (hm.trans rfl)
    refine ⟨⟨fun h => by omega, fun h => by omega, fun h => by omega, fun h => by omega, fun h => by omega⟩, ?_⟩
    intro h
    have h : (1 : Int) = 0 := h
    omega

theorem nodes_l2 (N : Nat) (a : List SNode) (kb : (List SNode × Int) → Option Bool) (i : Nat) (hi : i < a.length) (hi2 : i ≤ 100000) (hkl : a[i].Kids.length ≤ 100000) : ∀ (m j : Nat), a[i].Kids.length - j < m → j ≤ a[i].Kids.length → ms_TreeOk_l2 N kb m (a, (i : Int), (j : Int)) = some true →
    kb (a, ((i + 1 : Nat) : Int)) = some true ∧ ∀ (q : Nat) (hq : q < a[i].Kids.length), j ≤ q → ∃ y, ix a a[i].Kids[q] = some y ∧ ms_l7Kid a[i] (q : Int) y.Kind = some true := by
  intro m
  induction m with
  | zero => intro j h; omega
  | succ m ihm =>
    intro j hm hj hh
    rw [ms_TreeOk_l2, ix_nat hi, Option.bind_some] at hh
    by_cases hlt : j < a[i].Kids.length
    · simp only [lt_true hlt, cond_true, ix_nat hi, ix_nat hlt, Option.bind_some] at hh
      obtain ⟨y1, h1, hh⟩ := Option.bind_eq_some_iff.1 hh
      obtain ⟨y2, h2, hh⟩ := Option.bind_eq_some_iff.1 hh
      cases y2 with
      | false => cases hh
      | true =>
        simp only [Bool.not_true, cond_false] at hh
        rw [wrap64 (by omega) (by omega), show ((j : Int) + 1) = ((j + 1 : Nat) : Int) by omega] at hh
        obtain ⟨r1, r2⟩ := ihm (j + 1) (by omega) (by omega) hh
        refine ⟨r1, fun q hq hjq => ?_⟩
        by_cases hqj : q = j
        · subst hqj; exact ⟨y1, h1, h2⟩
        · exact r2 q hq (by omega)
    · simp only [lt_false hlt, cond_false] at hh
      rw [wrap64 (by omega) (by omega)] at hh
      exact ⟨hh, fun q hq hjq => by omega⟩

def NodeR (N : Nat) (a : List SNode) (x : SNode) : Prop := ms_FieldsOk N x = some true ∧ ∀ (q : Nat) (hq : q < x.Kids.length), ∃ y, ix a x.Kids[q] = some y ∧ ms_l7Kid x (q : Int) y.Kind = some true

theorem nodes_l1 (N : Nat) (a : List SNode) (ha : a.length ≤ 400) (hk : ∀ x, x ∈ a → x.Kids.length ≤ 400) (hN : 500 < N) : ∀ (n i : Nat), a.length - i < n → i ≤ a.length → ms_TreeOk_l1 N n (a, (i : Int)) = some true → ∀ x, x ∈ a.drop i → NodeR N a x := by
  intro n
  induction n with
  | zero => intro i h; omega
  | succ n ih =>
    intro i hn hi h x hx
    rw [ms_TreeOk_l1] at h
    by_cases hlt : i < a.length
    · simp only [lt_true hlt, cond_true, ix_nat hlt, Option.bind_some] at h
      obtain ⟨b, hb, h⟩ := Option.bind_eq_some_iff.1 h
      cases b with
      | false => cases h
      | true =>
        simp only [Bool.not_true, cond_false] at h
        have hkl := hk _ (List.getElem_mem hlt)
        obtain ⟨h1, h2⟩ := nodes_l2 N a (ms_TreeOk_l1 N n) i hlt (by omega) (by omega) N 0 (by omega) (by omega) h
        rw [drop_cons hlt] at hx
        rcases List.mem_cons.1 hx with rfl | hx
        · exact ⟨hb, fun q hq => h2 q hq (by omega)⟩
        · exact ih (i + 1) (by omega) (by omega) h1 x hx
    · rw [drop_nil hlt] at hx
      cases hx

theorem treeOk_nodes (N : Nat) (a : List SNode) (hN : 500 < N) (hsh : shapeB a = true) (h : ms_TreeOk N a = some true) : ∀ x, x ∈ a → NodeR N a x := by
  unfold ms_TreeOk at h
  obtain ⟨y, _, h⟩ := Option.bind_eq_some_iff.1 h
  cases y with
  | true => cases h
  | false =>
    rw [cond_false] at h
    intro x hx
    have h2 := (shape_of hsh).2.1
    exact nodes_l1 N a h2 (fun z hz => (shape_kids hsh z hz).1) hN N 0 (by omega) (by omega) h x (by rw [List.drop_zero]; exact hx)

theorem kidE (x : SNode) (q : Nat) (kd : Int) (h : ms_l7Kid x (q : Int) kd = some true) (he : isE x.Kind = true) : isE kd = true ∧ ((x.Kind = 9 ∨ x.Kind = 10 ∨ (x.Kind = 15 ∧ q = 0)) → isL kd = true) := by
  have hc : x.Kind = 1 ∨ x.Kind = 2 ∨ x.Kind = 3 ∨ x.Kind = 4 ∨ x.Kind = 5 ∨ x.Kind = 6 ∨ x.Kind = 7 ∨ x.Kind = 8 ∨ x.Kind = 9 ∨ x.Kind = 10 ∨ x.Kind = 11 ∨ x.Kind = 12 ∨ x.Kind = 13 ∨ x.Kind = 14 ∨ x.Kind = 15 := by
    unfold isE at he; simp only [Bool.and_eq_true, decide_eq_true_eq] at he; omega
  have other : ms_l7Kid x (q : Int) kd = Option.bind (ms_IsExpr kd) (fun r => some r) → isE kd = true := fun e => by
    rw [e, isE_spec] at h
    exact Option.some.inj h
  have target : ms_l7Kid x (q : Int) kd = Option.bind (ms_IsLvalue kd) (fun r => some r) → isL kd = true := fun e => by
    rw [e, isL_spec] at h
    exact Option.some.inj h
  obtain ⟨k, o, s, t, ks⟩ := x
  rcases hc with e | e | e | e | e | e | e | e | e | e | e | e | e | e | e <;> (have e : k = _ := e; subst e)
  case inr.inr.inr.inr.inr.inr.inr.inr.inl =>
    have := target rfl
    exact ⟨isL_E this, fun _ => this⟩
  case inr.inr.inr.inr.inr.inr.inr.inr.inr.inl =>
    have := target rfl
    exact ⟨isL_E this, fun _ => this⟩
  case inr.inr.inr.inr.inr.inr.inr.inr.inr.inr.inr.inr.inr.inr =>
    have e : ms_l7Kid ⟨15, o, s, t, ks⟩ (q : Int) kd = Option.bind (Option.bind (ms_IsExpr kd) fun r58 => bif r58 then bif (decide ((q : Int) > 0)) then some true else (Option.bind (ms_IsLvalue kd) fun r59 => some r59) else (some false)) fun y57 => some y57 := rfl
    rw [e, isE_spec, isL_spec] at h
    simp only [Option.bind_some] at h
    cases hk : isE kd with
    | false => rw [hk] at h; cases h
    | true =>
      rw [hk] at h
      refine ⟨rfl, fun hh => ?_⟩
      have hq : q = 0 := by
        rcases hh with h' | h' | h'
        · have h' : (15 : Int) = 9 := h'; omega
        · have h' : (15 : Int) = 10 := h'; omega
        · exact h'.2
      subst hq
      cases hl : isL kd with
      | true => rfl
      | false => rw [hl] at h; cases h
  all_goals
    refine ⟨other rfl, fun hh => ?_⟩
    exfalso
    simp at hh

theorem assign_op (N : Nat) (n : SNode) (h : ms_FieldsOk N n = some true) (hk : n.Kind = 15) : n.Op ≠ 99 := by
  obtain ⟨_, _, _, h2, _, _⟩ := fields_parts N n h
  have e : ms_l7Op n = Option.bind (ms_l7IsAssign n.Op) (fun r19 => some r19) := by
    obtain ⟨k, o, x, y, ks⟩ := n
    have hk : k = 15 := hk
    subst hk; rfl
  intro h99
  rw [e, h99] at h2
  unfold ms_l7IsAssign at h2
  rw [l1In_is] at h2
  have h2 := Option.some.inj h2
  revert h2
  decide

end Go.Proofs.Tryz
