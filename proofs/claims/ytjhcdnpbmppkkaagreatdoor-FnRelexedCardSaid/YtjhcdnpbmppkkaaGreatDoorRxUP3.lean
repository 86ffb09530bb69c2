/-
 Plain lemmas on the models, part 3.
-/
import Derived.Test.YtjhcdnpbmppkkaaGreatDoorRxUP2
namespace Go.Proofs.Tryz
open Go.Av
set_option maxRecDepth 100000
set_option linter.unusedSimpArgs false
set_option linter.unusedVariables false

theorem tot_bif {α : Type} {c : Bool} {x y : Option α} (hx : ∃ v, x = some v) (hy : ∃ v, y = some v) : ∃ v, (bif c then x else y) = some v := by
 cases c
 ·exact hy
 ·exact hx

theorem opLevel_ex (o : Int) : ∃ v, ms_OpLevel o = some v ∧ v ≤ 12 := by
 have h : ∀ {c : Bool} {x y : Option Int}, (∃ v, x = some v ∧ v ≤ 12) → (∃ v, y = some v ∧ v ≤ 12) → ∃ v, (bif c then x else y) = some v ∧ v ≤ 12 := fun {c x y} hx hy => by
  cases c
  ·exact hy
  ·exact hx
 have h4 : ∀ b, ∃ v, ms_OpLevel_k4 (o, b) = some v ∧ v ≤ 12 := fun b => h ⟨10, rfl, by decide⟩ (h ⟨12, rfl, by decide⟩ ⟨0, rfl, by decide⟩)
 have h3 : ∀ b, ∃ v, ms_OpLevel_k3 (o, b) = some v ∧ v ≤ 12 := fun b => h ⟨9, rfl, by decide⟩ (h (h4 _) (h (h4 _) (h4 _)))
 have h2 : ∀ b, ∃ v, ms_OpLevel_k2 (o, b) = some v ∧ v ≤ 12 := fun b => h ⟨7, rfl, by decide⟩ (h ⟨8, rfl, by decide⟩ (h (h3 _) (h3 _)))
 have h1 : ∀ b, ∃ v, ms_OpLevel_k1 (o, b) = some v ∧ v ≤ 12 := fun b => h ⟨6, rfl, by decide⟩ (h (h2 _) (h (h2 _) (h (h2 _) (h (h2 _) (h (h2 _) (h2 _))))))
 exact h ⟨3, rfl, by decide⟩ (h ⟨4, rfl, by decide⟩ (h (h1 _) (h1 _)))

def opLv (o : Int) : Int := (ms_OpLevel o).getD 0
theorem opLv_is (o : Int) : ms_OpLevel o = some (opLv o) := by
 obtain ⟨v, h, _⟩ := opLevel_ex o
 unfold opLv; rw [h]; rfl
theorem opLv_le (o : Int) : opLv o ≤ 12 := by
 obtain ⟨v, h, h2⟩ := opLevel_ex o
 unfold opLv; rw [h]; exact h2

def lv (k o : Int) : Int :=
 bif k == 15 then 1 else bif k == 14 then 2 else bif k == 13 then 5 else bif k == 12 then opLv o else bif k == 11 then 11 else bif k == 9 || k == 10 then 13 else bif k == 6 then 14 else
 bif k == 1 || (k == 2 || (k == 3 || (k == 4 || (k == 5 || (k == 7 || k == 8))))) then 15 else 0

theorem levelOf_is (n : SNode) : ms_LevelOf n = some (lv n.Kind n.Op) := by
 have h2 : ∀ b : Bool, ms_LevelOf_k2 b = some (bif b then 15 else 0) := fun b => by cases b <;> rfl
 unfold ms_LevelOf lv
 rw [opLv_is]
 cases n.Kind == 15
 ·cases n.Kind == 14
  ·cases n.Kind == 13
   ·cases n.Kind == 12
    ·cases n.Kind == 11
     ·simp only [cond_false, ms_LevelOf_k1]
      cases n.Kind == 9
      ·cases n.Kind == 10
       ·cases n.Kind == 6
        ·cases n.Kind == 1
         ·cases n.Kind == 2
          ·cases n.Kind == 3
           ·cases n.Kind == 4
            ·cases n.Kind == 5
             ·cases n.Kind == 7
              ·cases n.Kind == 8 <;> rfl
              ·rfl
             ·rfl
            ·rfl
           ·rfl
          ·rfl
         ·rfl
        ·rfl
       ·rfl
      ·rfl
     ·rfl
    ·rfl
   ·rfl
  ·rfl
 ·rfl

def posB (p : SPos) : Bool := (decide (p.Level ≥ 1) && decide (p.Level ≤ 15)) && (!p.Dollar || p.Level == 14)
theorem posOk_is (p : SPos) : ms_PosOk p = some (posB p) := by
 unfold ms_PosOk posB
 rw [l1In_is, Option.bind_some]
 cases (decide (p.Level ≥ 1) && decide (p.Level ≤ 15)) <;> cases p.Dollar <;> rfl
def fitB (k o : Int) (p : SPos) : Bool :=
 !(!posB p || lv k o == 0) && (!(p.NoIn && k == 13) && (!(p.NoGt && (k == 12 && o == 62)) && (!(p.NoSign && (k == 11 || (k == 9 || k == 4))) && ((p.Dollar && k == 9) || decide (lv k o ≥ p.Level)))))

theorem bo_or (c d : Bool) : (bif c then some true else some d) = some (c || d) := by cases c <;> rfl
theorem bo_and (c d : Bool) : (bif c then some d else some false) = some (c && d) := by cases c <;> rfl
theorem bo_not (c d : Bool) : (bif c then some false else some d) = some (!c && d) := by cases c <;> rfl
theorem fits_is (n : SNode) (p : SPos) : ms_Fits n p = some (fitB n.Kind n.Op p) := by
 unfold ms_Fits fitB
 rw [posOk_is, levelOf_is]
 simp only [Option.bind_some, bo_or, bo_and, bo_not]

def sideLv (o : Int) : Int × Int :=
 bif opLv o == 3 then (3, 4) else bif opLv o == 4 then (4, 5) else bif opLv o == 6 then (7, 7) else bif opLv o == 7 then (8, 8) else bif opLv o == 8 then (8, 9) else bif opLv o == 9 then (9, 10) else bif opLv o == 10 then (10, 11) else (13, 11)

theorem sides_is (o : Int) : ms_l9Sides o = some (sideLv o) := by
 unfold ms_l9Sides sideLv
 rw [opLv_is, Option.bind_some]
 cases opLv o == 3 <;> cases opLv o == 4 <;> cases opLv o == 6 <;> cases opLv o == 7 <;> cases opLv o == 8 <;> cases opLv o == 9 <;> cases opLv o == 10 <;> rfl

def kidP (kd o : Int) (n : Nat) (k : Nat) (p : SPos) : SPos :=
 bif kd == 15 then (bif decide (k > 0) then ⟨1, false, p.NoIn, p.NoGt, false⟩ else ⟨14, false, p.NoIn, p.NoGt, p.NoSign⟩)
 else bif kd == 14 then (bif decide (k > 0) then ⟨2, false, p.NoIn, p.NoGt, false⟩ else ⟨3, false, p.NoIn, p.NoGt, p.NoSign⟩)
 else bif kd == 13 then (bif decide (n > 1) then ⟨1, false, false, false, false⟩ else ⟨5, false, p.NoIn, p.NoGt, p.NoSign⟩)
 else bif kd == 12 then (bif decide (k > 0) then ⟨(sideLv o).2, false, p.NoIn, p.NoGt, o == 99⟩ else ⟨(sideLv o).1, false, p.NoIn, p.NoGt, p.NoSign⟩)
 else bif kd == 11 then ⟨11, false, p.NoIn, p.NoGt, false⟩
 else bif kd == 9 || kd == 10 then ⟨14, false, p.NoIn, p.NoGt, false⟩
 else bif kd == 6 then ⟨14, true, p.NoIn, p.NoGt, false⟩ else ⟨1, false, false, false, false⟩

theorem kidPos_is (n : SNode) (k : Nat) (p : SPos) (hk : k < n.Kids.length) (hl : n.Kids.length ≤ 1000000) (hp : posB p = true) (hlv : lv n.Kind n.Op ≠ 0) : ms_KidPos n (k : Int) p = some (kidP n.Kind n.Op n.Kids.length k p) := by
 have h0 : (lv n.Kind n.Op == 0) = false := by simpa using hlv
 have h1 : (decide ((k : Int) ≥ 0) && decide ((k : Int) ≤ (n.Kids.length : Int) - 1)) = true := by simp; omega
 have hg : decide ((k : Int) > 0) = decide (k > 0) := by by_cases h : k > 0 <;> simp [h]
 have hz : ((k : Int) == 0) = !decide (k > 0) := by
  by_cases h : k = 0
  ·subst h; rfl
  ·have h1 : ((k : Int) == 0) = false := by simp; omega
   have h2 : decide (k > 0) = true := by simp; omega
   rw [h1, h2]; rfl
 have hn : decide ((n.Kids.length : Int) > 1) = decide (n.Kids.length > 1) := by by_cases h : n.Kids.length > 1 <;> simp [h] <;> omega
 unfold ms_KidPos kidP
 rw [wrap64 (by omega) (by omega), l1In_is, posOk_is, levelOf_is, hp, h1]
 simp only [Option.bind_some, Bool.not_true, cond_false, bo_and, hg, hz, hn, h0, sides_is]
 cases n.Kind == 15
 ·cases n.Kind == 14
  ·cases n.Kind == 13
   ·cases n.Kind == 12
    ·cases n.Kind == 11
     ·cases n.Kind == 9
      ·cases n.Kind == 10
       ·cases h6 : n.Kind == 6 <;> (show ms_KidPos_k2 (n, p, p.NoSign && !decide (k > 0), false) = _; rw [ms_KidPos_k2, h6]; rfl)
       ·rfl
      ·rfl
     ·rfl
    ·cases decide (k > 0) <;> cases p.NoSign <;> rfl
   ·have hk0 : decide (n.Kids.length > 1) = false → decide (k > 0) = false := fun h => by simp at h ⊢; omega
    cases hq : decide (n.Kids.length > 1)
    ·rw [hk0 hq]; cases p.NoSign <;> rfl
    ·rfl
  ·cases decide (k > 0) <;> cases p.NoSign <;> rfl
 ·cases decide (k > 0) <;> cases p.NoSign <;> rfl

theorem nodes_l2 (N : Nat) (a : List SNode) (kb : (List SNode × Int) → Option Bool) (i : Nat) (hi : i < a.length) (hi2 : i ≤ 100000) (hkl : a[i].Kids.length ≤ 100000) : ∀ (m j : Nat), a[i].Kids.length - j < m → j ≤ a[i].Kids.length → ms_TreeOk_l2 N kb m (a, (i : Int), (j : Int)) = some true →
  kb (a, ((i + 1 : Nat) : Int)) = some true ∧ ∀ (q : Nat) (hq : q < a[i].Kids.length), j ≤ q → ∃ y, ix a a[i].Kids[q] = some y ∧ ms_l7Kid a[i] (q : Int) y.Kind = some true := by
 intro m
 induction m with
 | zero => intro j h; omega
 | succ m ihm =>
  intro j hm hj hh
  rw [ms_TreeOk_l2, ix_nat hi, Option.bind_some] at hh
  by_cases hlt : j < a[i].Kids.length
  ·simp only [lt_true hlt, cond_true, ix_nat hi, ix_nat hlt, Option.bind_some] at hh
   obtain ⟨y1, h1, hh⟩ := Option.bind_eq_some_iff.1 hh
   obtain ⟨y2, h2, hh⟩ := Option.bind_eq_some_iff.1 hh
   cases y2 with
   | false => cases hh
   | true =>
    simp only [Bool.not_true, cond_false] at hh
    rw [wrap64 (by omega) (by omega), show ((j : Int) + 1) = ((j + 1 : Nat) : Int) by omega] at hh
    obtain ⟨r1, r2⟩ := ihm (j + 1) (by omega) (by omega) hh
    refine ⟨r1, fun q hq hjq => ?_⟩
    by_cases hqj : q = j
    ·subst hqj; exact ⟨y1, h1, h2⟩
    ·exact r2 q hq (by omega)
  ·simp only [lt_false hlt, cond_false] at hh
   rw [wrap64 (by omega) (by omega)] at hh
   exact ⟨hh, fun q hq hjq => by omega⟩

def NodeR (N : Nat) (a : List SNode) (x : SNode) : Prop := ms_FieldsOk N x = some true ∧ ∀ (q : Nat) (hq : q < x.Kids.length), ∃ y, ix a x.Kids[q] = some y ∧ ms_l7Kid x (q : Int) y.Kind = some true

theorem nodes_l1 (N : Nat) (a : List SNode) (ha : a.length ≤ 400) (hk : ∀ x, x ∈ a → x.Kids.length ≤ 400) (hN : 500 < N) : ∀ (n i : Nat), a.length - i < n → i ≤ a.length → ms_TreeOk_l1 N n (a, (i : Int)) = some true → ∀ x, x ∈ a.drop i → NodeR N a x := by
 intro n
 induction n with
 | zero => intro i h; omega
 | succ n ih =>
  intro i hn hi h x hx
  rw [ms_TreeOk_l1] at h
  by_cases hlt : i < a.length
  ·simp only [lt_true hlt, cond_true, ix_nat hlt, Option.bind_some] at h
   obtain ⟨b, hb, h⟩ := Option.bind_eq_some_iff.1 h
   cases b with
   | false => cases h
   | true =>
    simp only [Bool.not_true, cond_false] at h
    have hkl := hk _ (List.getElem_mem hlt)
    obtain ⟨h1, h2⟩ := nodes_l2 N a (ms_TreeOk_l1 N n) i hlt (by omega) (by omega) N 0 (by omega) (by omega) h
    rw [drop_cons hlt] at hx
    rcases List.mem_cons.1 hx with rfl | hx
    ·exact ⟨hb, fun q hq => h2 q hq (by omega)⟩
    ·exact ih (i + 1) (by omega) (by omega) h1 x hx
  ·rw [drop_nil hlt] at hx
   cases hx

theorem treeOk_nodes (N : Nat) (a : List SNode) (hN : 500 < N) (hsh : shapeB a = true) (h : ms_TreeOk N a = some true) : ∀ x, x ∈ a → NodeR N a x := by
 unfold ms_TreeOk at h
 obtain ⟨y, _, h⟩ := Option.bind_eq_some_iff.1 h
 cases y with
 | true => cases h
 | false =>
  rw [cond_false] at h
  intro x hx
  have h2 := (shape_of hsh).2.1
  exact nodes_l1 N a h2 (fun z hz => (shape_kids hsh z hz).1) hN N 0 (by omega) (by omega) h x (by rw [List.drop_zero]; exact hx)

theorem fields_parts (N : Nat) (n : SNode) (h : ms_FieldsOk N n = some true) : ∃ lo hi, ms_l7Many n = some (lo, hi) ∧ ms_l7Op n = some true ∧ lo ≤ (n.Kids.length : Int) ∧ (n.Kids.length : Int) ≤ hi := by
 unfold ms_FieldsOk at h
 obtain ⟨⟨lo, hi⟩, h1, h⟩ := bind_some h
 obtain ⟨y6, h2, h⟩ := bind_some h
 obtain ⟨y13, h3, h⟩ := bind_some h
 cases h
 rcases cond_some h3 with ⟨_, h3⟩ | ⟨_, h3⟩
 ·obtain ⟨r14, ho, h3⟩ := bind_some h3
  rcases cond_some h3 with ⟨hc, h3⟩ | ⟨_, h3⟩
  ·subst hc
   obtain ⟨r15, _, h3⟩ := bind_some h3
   rcases cond_some h3 with ⟨_, h3⟩ | ⟨_, h3⟩
   ·obtain ⟨r16, hl, h3⟩ := bind_some h3
    cases h3
    rw [l1In_is] at hl
    have hl := Option.some.inj hl
    simp only [Bool.and_eq_true, decide_eq_true_eq] at hl
    exact ⟨lo, hi, h1, ho, by omega, by omega⟩
   ·cases h3
  ·cases h3
 ·cases h3

def Ar (n : SNode) : Prop :=
 (n.Kind = 1 ∨ n.Kind = 2 ∨ n.Kind = 3 ∨ n.Kind = 4 → n.Kids.length = 0) ∧ (n.Kind = 5 ∨ n.Kind = 13 → 1 ≤ n.Kids.length) ∧ (n.Kind = 6 ∨ n.Kind = 9 ∨ n.Kind = 10 ∨ n.Kind = 11 → n.Kids.length = 1) ∧
 (n.Kind = 12 ∨ n.Kind = 15 → n.Kids.length = 2) ∧ (n.Kind = 14 → n.Kids.length = 3)

theorem isBin_lv (o : Int) (h : ms_l7IsBin o = some true) : opLv o ≠ 0 := by
 have hk : ∀ b, ms_l7IsBin_k1 b = some b := fun b => by cases b <;> rfl
 unfold ms_l7IsBin at h
 simp only [hk] at h
 have hc : o = 60 ∨ o = 57 ∨ o = 58 ∨ o = 59 ∨ o = 55 ∨ o = 56 ∨ o = 99 ∨ o = 63 ∨ o = 48 ∨ o = 47 ∨ o = 50 ∨ o = 62 ∨ o = 49 ∨ o = 67 ∨ o = 46 ∨ o = 45 ∨ o = 44 := by
  have key : ∀ (c : Int) (x : Option Bool), (bif (o == c) then some (o == c) else x) = some true → o = c ∨ x = some true := fun c x h => by
   cases hoc : o == c with
   | true => exact .inl (by simpa using hoc)
   | false => rw [hoc] at h; exact .inr h
  rcases key _ _ h with e | h; · exact .inl e
  rcases key _ _ h with e | h; · simp [e]
  rcases key _ _ h with e | h; · simp [e]
  rcases key _ _ h with e | h; · simp [e]
  rcases key _ _ h with e | h; · simp [e]
  rcases key _ _ h with e | h; · simp [e]
  rcases key _ _ h with e | h; · simp [e]
  rcases key _ _ h with e | h; · simp [e]
  rcases key _ _ h with e | h; · simp [e]
  rcases key _ _ h with e | h; · simp [e]
  rcases key _ _ h with e | h; · simp [e]
  rcases key _ _ h with e | h; · simp [e]
  rcases key _ _ h with e | h; · simp [e]
  rcases key _ _ h with e | h; · simp [e]
  rcases key _ _ h with e | h; · simp [e]
  rcases key _ _ h with e | h; · simp [e]
  have := Option.some.inj h
  have e : o = 44 := by simpa using this
  simp [e]
 rcases hc with e | e | e | e | e | e | e | e | e | e | e | e | e | e | e | e | e <;> subst e <;> decide

theorem fieldsE (N : Nat) (n : SNode) (h : ms_FieldsOk N n = some true) (he : isE n.Kind = true) : Ar n ∧ lv n.Kind n.Op ≠ 0 := by
 obtain ⟨lo, hi, h1, h2, h3, h4⟩ := fields_parts N n h
 have hc : n.Kind = 1 ∨ n.Kind = 2 ∨ n.Kind = 3 ∨ n.Kind = 4 ∨ n.Kind = 5 ∨ n.Kind = 6 ∨ n.Kind = 7 ∨ n.Kind = 8 ∨ n.Kind = 9 ∨ n.Kind = 10 ∨ n.Kind = 11 ∨ n.Kind = 12 ∨ n.Kind = 13 ∨ n.Kind = 14 ∨ n.Kind = 15 := by
  unfold isE at he; simp only [Bool.and_eq_true, decide_eq_true_eq] at he; omega
 have many : ∀ (a b : Int), ms_l7Many n = some (a, b) → a ≤ (n.Kids.length : Int) ∧ (n.Kids.length : Int) ≤ b := fun a b hm => by
  rw [hm] at h1
  cases h1
  exact ⟨h3, h4⟩
 have val : ∀ (c : Int) (r : Int × Int), n.Kind = c → (∀ m : SNode, m.Kind = c → ms_l7Many m = some r) → r.1 ≤ (n.Kids.length : Int) ∧ (n.Kids.length : Int) ≤ r.2 := fun c r e hm => many _ _ (hm n e)
 have step : ∀ (c : Int), n.Kind = c → ms_l7Many n = ms_l7Many ⟨c, n.Op, n.Text, n.Other, n.Kids⟩ := fun c e => by
  obtain ⟨k, o, x, y, ks⟩ := n
  subst e; rfl
 have opS : n.Kind = 12 → ms_l7Op n = Option.bind (ms_l7IsBin n.Op) (fun r17 => some r17) := fun e => by
  obtain ⟨k, o, x, y, ks⟩ := n
  subst e; rfl
 unfold Ar
 rcases hc with e | e | e | e | e | e | e | e | e | e | e | e | e | e | e
 all_goals
  have hm := step _ e
  simp only [e]
 case inl =>
  have hq := many 0 0 (hm.trans rfl)
  refine ⟨⟨fun h => by omega, fun h => by omega, fun h => by omega, fun h => by omega, fun h => by omega⟩, ?_⟩
  intro h
  have h : (15 : Int) = 0 := h
  omega
 case inr.inl =>
  have hq := many 0 0 (hm.trans rfl)
  refine ⟨⟨fun h => by omega, fun h => by omega, fun h => by omega, fun h => by omega, fun h => by omega⟩, ?_⟩
  intro h
  have h : (15 : Int) = 0 := h
  omega
 case inr.inr.inl =>
  have hq := many 0 0 (hm.trans rfl)
  refine ⟨⟨fun h => by omega, fun h => by omega, fun h => by omega, fun h => by omega, fun h => by omega⟩, ?_⟩
  intro h
  have h : (15 : Int) = 0 := h
  omega
 case inr.inr.inr.inl =>
  have hq := many 0 0 (hm.trans rfl)
  refine ⟨⟨fun h => by omega, fun h => by omega, fun h => by omega, fun h => by omega, fun h => by omega⟩, ?_⟩
  intro h
  have h : (15 : Int) = 0 := h
  omega
 case inr.inr.inr.inr.inl =>
  have hq := many 1 6 (hm.trans rfl)
  refine ⟨⟨fun h => by omega, fun h => by omega, fun h => by omega, fun h => by omega, fun h => by omega⟩, ?_⟩
  intro h
  have h : (15 : Int) = 0 := h
  omega
 case inr.inr.inr.inr.inr.inl =>
  have hq := many 1 1 (hm.trans rfl)
  refine ⟨⟨fun h => by omega, fun h => by omega, fun h => by omega, fun h => by omega, fun h => by omega⟩, ?_⟩
  intro h
  have h : (14 : Int) = 0 := h
  omega
 case inr.inr.inr.inr.inr.inr.inl =>
  have hq := many 0 6 (hm.trans rfl)
  refine ⟨⟨fun h => by omega, fun h => by omega, fun h => by omega, fun h => by omega, fun h => by omega⟩, ?_⟩
  intro h
  have h : (15 : Int) = 0 := h
  omega
 case inr.inr.inr.inr.inr.inr.inr.inl =>
  have hq := many 0 6 (hm.trans rfl)
  refine ⟨⟨fun h => by omega, fun h => by omega, fun h => by omega, fun h => by omega, fun h => by omega⟩, ?_⟩
  intro h
  have h : (15 : Int) = 0 := h
  omega
 case inr.inr.inr.inr.inr.inr.inr.inr.inl =>
  have hq := many 1 1 (hm.trans rfl)
  refine ⟨⟨fun h => by omega, fun h => by omega, fun h => by omega, fun h => by omega, fun h => by omega⟩, ?_⟩
  intro h
  have h : (13 : Int) = 0 := h
  omega
 case inr.inr.inr.inr.inr.inr.inr.inr.inr.inl =>
  have hq := many 1 1 (hm.trans rfl)
  refine ⟨⟨fun h => by omega, fun h => by omega, fun h => by omega, fun h => by omega, fun h => by omega⟩, ?_⟩
  intro h
  have h : (13 : Int) = 0 := h
  omega
 case inr.inr.inr.inr.inr.inr.inr.inr.inr.inr.inl =>
  have hq := many 1 1 (hm.trans rfl)
  refine ⟨⟨fun h => by omega, fun h => by omega, fun h => by omega, fun h => by omega, fun h => by omega⟩, ?_⟩
  intro h
  have h : (11 : Int) = 0 := h
  omega
 case inr.inr.inr.inr.inr.inr.inr.inr.inr.inr.inr.inl =>
  have hq := many 2 2 (hm.trans rfl)
  refine ⟨⟨fun h => by omega, fun h => by omega, fun h => by omega, fun h => by omega, fun h => by omega⟩, ?_⟩
  have h5 := opS e
  rw [h2] at h5
  have h6 : ms_l7IsBin n.Op = some true := by
   cases hb : ms_l7IsBin n.Op with
   | none => rw [hb] at h5; cases h5
   | some v => rw [hb] at h5; cases h5; rfl
  exact isBin_lv n.Op h6
 case inr.inr.inr.inr.inr.inr.inr.inr.inr.inr.inr.inr.inl =>
  have hq := many 1 6 (hm.trans rfl)
  refine ⟨⟨fun h => by omega, fun h => by omega, fun h => by omega, fun h => by omega, fun h => by omega⟩, ?_⟩
  intro h
  have h : (5 : Int) = 0 := h
  omega
 case inr.inr.inr.inr.inr.inr.inr.inr.inr.inr.inr.inr.inr.inl =>
  have hq := many 3 3 (hm.trans rfl)
  refine ⟨⟨fun h => by omega, fun h => by omega, fun h => by omega, fun h => by omega, fun h => by omega⟩, ?_⟩
  intro h
  have h : (2 : Int) = 0 := h
  omega
 case inr.inr.inr.inr.inr.inr.inr.inr.inr.inr.inr.inr.inr.inr =>
  have hq := many 2 2 (hm.trans rfl)
  refine ⟨⟨fun h => by omega, fun h => by omega, fun h => by omega, fun h => by omega, fun h => by omega⟩, ?_⟩
  intro h
  have h : (1 : Int) = 0 := h
  omega

theorem kidE (x : SNode) (q : Nat) (kd : Int) (h : ms_l7Kid x (q : Int) kd = some true) (he : isE x.Kind = true) : isE kd = true ∧ ((x.Kind = 9 ∨ x.Kind = 10 ∨ (x.Kind = 15 ∧ q = 0)) → isL kd = true) := by
 have hc : x.Kind = 1 ∨ x.Kind = 2 ∨ x.Kind = 3 ∨ x.Kind = 4 ∨ x.Kind = 5 ∨ x.Kind = 6 ∨ x.Kind = 7 ∨ x.Kind = 8 ∨ x.Kind = 9 ∨ x.Kind = 10 ∨ x.Kind = 11 ∨ x.Kind = 12 ∨ x.Kind = 13 ∨ x.Kind = 14 ∨ x.Kind = 15 := by
  unfold isE at he; simp only [Bool.and_eq_true, decide_eq_true_eq] at he; omega
 have other : ms_l7Kid x (q : Int) kd = Option.bind (ms_IsExpr kd) (fun r => some r) → isE kd = true := fun e => by
  rw [e, isE_spec] at h
  exact Option.some.inj h
 have target : ms_l7Kid x (q : Int) kd = Option.bind (ms_IsLvalue kd) (fun r => some r) → isL kd = true := fun e => by
  rw [e, isL_spec] at h
  exact Option.some.inj h
 obtain ⟨k, o, s, t, ks⟩ := x
 rcases hc with e | e | e | e | e | e | e | e | e | e | e | e | e | e | e <;> (have e : k = _ := e; subst e)
 case inr.inr.inr.inr.inr.inr.inr.inr.inl =>
  have := target rfl
  exact ⟨isL_E this, fun _ => this⟩
 case inr.inr.inr.inr.inr.inr.inr.inr.inr.inl =>
  have := target rfl
  exact ⟨isL_E this, fun _ => this⟩
 case inr.inr.inr.inr.inr.inr.inr.inr.inr.inr.inr.inr.inr.inr =>
  have e : ms_l7Kid ⟨15, o, s, t, ks⟩ (q : Int) kd = ((ms_IsExpr kd).bind fun r58 => bif r58 then bif (decide ((q : Int) > 0)) then some true else ((ms_IsLvalue kd).bind fun r59 => some r59) else (some false)).bind fun y57 => some y57 := rfl
  rw [e, isE_spec, isL_spec] at h
  simp only [Option.bind_some] at h
  cases hk : isE kd with
  | false => rw [hk] at h; cases h
  | true =>
   rw [hk] at h
   refine ⟨rfl, fun hh => ?_⟩
   have hq : q = 0 := by
    rcases hh with h' | h' | h'
    ·have h' : (15 : Int) = 9 := h'; omega
    ·have h' : (15 : Int) = 10 := h'; omega
    ·exact h'.2
   subst hq
   cases hl : isL kd with
   | true => rfl
   | false => rw [hl] at h; cases h
 all_goals
  refine ⟨other rfl, fun hh => ?_⟩
  exfalso
  simp at hh

theorem assign_op (N : Nat) (n : SNode) (h : ms_FieldsOk N n = some true) (hk : n.Kind = 15) : n.Op ≠ 99 := by
 obtain ⟨_, _, _, h2, _, _⟩ := fields_parts N n h
 have e : ms_l7Op n = Option.bind (ms_l7IsAssign n.Op) (fun r19 => some r19) := by
  obtain ⟨k, o, x, y, ks⟩ := n
  have hk : k = 15 := hk
  subst hk; rfl
 intro h99
 rw [e, h99] at h2
 unfold ms_l7IsAssign at h2
 rw [l1In_is] at h2
 have h2 := Option.some.inj h2
 revert h2
 decide

mutual
def allT (P : STree → Prop) : STree → Prop
 | ⟨k, o, x, y, ks⟩ => P ⟨k, o, x, y, ks⟩ ∧ allTs P ks
def allTs (P : STree → Prop) : List STree → Prop
 | [] => True
 | t :: ts => allT P t ∧ allTs P ts
end
mutual
theorem allT_of {a : List SNode} {P : STree → Prop} (h : ∀ (t : STree) (s i : Nat), TA a t s i → P t) : ∀ (t : STree) (s i : Nat), TA a t s i → allT P t
 | ⟨k, o, x, y, ks⟩, s, i, ht => by
  have h1 := h _ s i ht
  rw [TA] at ht
  obtain ⟨n, _, _, _, _, _, hk⟩ := ht
  rw [allT]
  exact ⟨h1, allTs_of h ks _ s i hk⟩
theorem allTs_of {a : List SNode} {P : STree → Prop} (h : ∀ (t : STree) (s i : Nat), TA a t s i → P t) : ∀ (ts : List STree) (ks : List Int) (s e : Nat), KA a ts ks s e → allTs P ts
 | [], ks, s, e, _ => by rw [allTs]; trivial
 | t :: ts, ks, s, e, hk => by
  rw [KA] at hk
  obtain ⟨k, ks', _, _, _, h1, h2⟩ := hk
  rw [allTs]
  exact ⟨allT_of h t s k h1, allTs_of h ts ks' (k + 1) e h2⟩
end


def Same14 (p q : SPos) : Prop := p.Level = 14 ∧ q.Level = 14 ∧ p.Dollar = q.Dollar ∧ p.NoSign = q.NoSign
def RelP (p q : SPos) : Prop := p = q ∨ Same14 p q
def RelK (k : Int) (p q : SPos) : Prop := p = q ∨ k ≤ 9

theorem kinds {k : Int} (he : isE k = true) : k = 1 ∨ k = 2 ∨ k = 3 ∨ k = 4 ∨ k = 5 ∨ k = 6 ∨ k = 7 ∨ k = 8 ∨ k = 9 ∨ k = 10 ∨ k = 11 ∨ k = 12 ∨ k = 13 ∨ k = 14 ∨ k = 15 := by
 unfold isE at he; simp only [Bool.and_eq_true, decide_eq_true_eq] at he; omega

theorem fit_same {k o : Int} {p q : SPos} (he : isE k = true) (h : Same14 p q) : fitB k o p = fitB k o q ∧ (fitB k o p = true → k ≤ 9) := by
 obtain ⟨h1, h2, h3, h4⟩ := h
 have hp : posB p = posB q := by unfold posB; rw [h1, h2, h3]
 have ho := opLv_le o
 have low : lv k o < 14 → (k == 9) = false → ∀ r : SPos, r.Level = 14 → fitB k o r = false := fun hl h9 r hr => by
  unfold fitB
  rw [h9, hr]
  have : decide (lv k o ≥ 14) = false := by simp; omega
  rw [this]
  simp
 rcases kinds he with e | e | e | e | e | e | e | e | e | e | e | e | e | e | e <;> subst e
 case inr.inr.inr.inr.inr.inr.inr.inr.inr.inl =>
  have l : lv 10 o < 14 := by show (13 : Int) < 14; decide
  rw [low l rfl p h1, low l rfl q h2]; exact ⟨rfl, fun h => by cases h⟩
 case inr.inr.inr.inr.inr.inr.inr.inr.inr.inr.inl =>
  have l : lv 11 o < 14 := by show (11 : Int) < 14; decide
  rw [low l rfl p h1, low l rfl q h2]; exact ⟨rfl, fun h => by cases h⟩
 case inr.inr.inr.inr.inr.inr.inr.inr.inr.inr.inr.inl =>
  have l : lv 12 o < 14 := by show opLv o < 14; omega
  rw [low l rfl p h1, low l rfl q h2]; exact ⟨rfl, fun h => by cases h⟩
 case inr.inr.inr.inr.inr.inr.inr.inr.inr.inr.inr.inr.inl =>
  have l : lv 13 o < 14 := by show (5 : Int) < 14; decide
  rw [low l rfl p h1, low l rfl q h2]; exact ⟨rfl, fun h => by cases h⟩
 case inr.inr.inr.inr.inr.inr.inr.inr.inr.inr.inr.inr.inr.inl =>
  have l : lv 14 o < 14 := by show (2 : Int) < 14; decide
  rw [low l rfl p h1, low l rfl q h2]; exact ⟨rfl, fun h => by cases h⟩
 case inr.inr.inr.inr.inr.inr.inr.inr.inr.inr.inr.inr.inr.inr =>
  have l : lv 15 o < 14 := by show (1 : Int) < 14; decide
  rw [low l rfl p h1, low l rfl q h2]; exact ⟨rfl, fun h => by cases h⟩
 all_goals
  refine ⟨?_, fun _ => by decide⟩
  unfold fitB
  rw [hp, h1, h2, h3, h4]
  simp

theorem fit_rel {k o : Int} {p q : SPos} (he : isE k = true) (h : RelP p q) : fitB k o p = fitB k o q ∧ (fitB k o p = true → RelK k p q) := by
 rcases h with rfl | h
 ·exact ⟨rfl, fun _ => .inl rfl⟩
 ·obtain ⟨h1, h2⟩ := fit_same (o := o) he h
  exact ⟨h1, fun hf => .inr (h2 hf)⟩

theorem kid_rel {k o : Int} {n j : Nat} {p q : SPos} (he : isE k = true) (h : RelK k p q) : RelP (kidP k o n j p) (kidP k o n j q) := by
 rcases h with rfl | h9
 ·exact .inl rfl
 ·rcases kinds he with e | e | e | e | e | e | e | e | e | e | e | e | e | e | e <;> subst e <;> first
   | exact .inl rfl
   | exact .inr ⟨rfl, rfl, rfl, rfl⟩
   | (exfalso; omega)

theorem kid_pos {k o : Int} {n j : Nat} {p : SPos} (he : isE k = true) : posB (kidP k o n j p) = true := by
 have hs : ∀ o, posB ⟨(sideLv o).1, false, p.NoIn, p.NoGt, p.NoSign⟩ = true ∧ posB ⟨(sideLv o).2, false, p.NoIn, p.NoGt, o == 99⟩ = true := fun o => by
  unfold sideLv posB
  cases opLv o == 3 <;> cases opLv o == 4 <;> cases opLv o == 6 <;> cases opLv o == 7 <;> cases opLv o == 8 <;> cases opLv o == 9 <;> cases opLv o == 10 <;> exact ⟨rfl, rfl⟩
 rcases kinds he with e | e | e | e | e | e | e | e | e | e | e | e | e | e | e <;> subst e
 case inr.inr.inr.inr.inr.inr.inr.inr.inr.inr.inr.inl =>
  unfold kidP
  cases decide (j > 0)
  ·exact (hs o).1
  ·exact (hs o).2
 case inr.inr.inr.inr.inr.inr.inr.inr.inr.inr.inr.inr.inl =>
  unfold kidP
  cases decide (n > 1) <;> rfl
 all_goals (unfold kidP; first | rfl | (cases decide (j > 0) <;> rfl))


def spl (k : Int) : List UInt8 := (ms_SpellOf k).getD []
theorem spl_is (k : Int) : ms_SpellOf k = some (spl k) := by
 obtain ⟨x, h, _⟩ := spellS_ex k
 unfold spl; rw [h]; rfl
def sg (k : Int) : SToken := ⟨k, spl k, 0⟩
theorem tok_is (k : Int) : ms_l10Tok k = some (sg k) := by unfold ms_l10Tok; rw [spl_is]; rfl
def topP : SPos := ⟨1, false, false, false, false⟩
def tgt (k : Int) (j : Nat) : Bool := ((j : Int) == 0) && ((k == 9) || ((k == 10) || (k == 15)))
def parF (f : Bool) (k o : Int) (p : SPos) : Bool := bif f then (lv k o != 15 || k == 4) else !fitB k o p
def parT (b : Bool) (x y : List SToken) : List SToken := bif b then sg 32 :: (y ++ [sg 33]) else x
def commaL : Bool → List (List SToken) → List SToken
 | _, [] => []
 | b, x :: xs => (bif b then [sg 36] else []) ++ (x ++ commaL true xs)
def asmT (k o : Int) (x : List UInt8) (l : List (List SToken)) : List SToken :=
 bif k == 1 then [⟨6, x, 0⟩] else bif k == 2 then [⟨3, x, 0⟩] else bif k == 3 then [⟨4, x, 0⟩] else bif k == 4 then [⟨5, x, 0⟩]
 else bif k == 5 then ⟨6, x, 0⟩ :: sg 34 :: (commaL false l ++ [sg 35])
 else bif k == 7 then ⟨7, x, 0⟩ :: sg 32 :: (commaL false l ++ [sg 33])
 else bif k == 8 then ⟨8, x, 0⟩ :: sg 32 :: (commaL false l ++ [sg 33])
 else bif k == 9 then sg o :: l.getD 0 []
 else bif k == 11 then sg o :: l.getD 0 []
 else bif k == 6 then sg 68 :: l.getD 0 []
 else bif k == 10 then l.getD 0 [] ++ [sg o]
 else bif k == 13 then (bif decide (l.length > 1) then sg 32 :: (commaL false l ++ [sg 33]) else l.getD 0 []) ++ [sg 24, ⟨6, x, 0⟩]
 else bif k == 14 then l.getD 0 [] ++ (sg 65 :: (l.getD 1 [] ++ (sg 66 :: l.getD 2 [])))
 else l.getD 0 [] ++ ((bif o == 99 then [] else [sg o]) ++ l.getD 1 [])
mutual
def tokB (f : Bool) : STree → SPos → List SToken
 | ⟨k, o, x, y, ks⟩, p => asmT k o x (tokKs f k o ks.length 0 p ks)
def tokKs (f : Bool) (k o : Int) (n j : Nat) (p : SPos) : List STree → List (List SToken)
 | [] => []
 | t :: ts => (bif tgt k j then tokB f t (kidP k o n j p) else parT (parF f t.kind t.op (kidP k o n j p)) (tokB f t (kidP k o n j p)) (tokB f t topP)) :: tokKs f k o n (j + 1) p ts
end
def tokE (f : Bool) (t : STree) (p : SPos) : List SToken := parT (parF f t.kind t.op p) (tokB f t p) (tokB f t topP)
def kidTok (f : Bool) (k o : Int) (n j : Nat) (p : SPos) (t : STree) : List SToken := bif tgt k j then tokB f t (kidP k o n j p) else tokE f t (kidP k o n j p)
theorem tokKs_cons (f : Bool) (k o : Int) (n j : Nat) (p : SPos) (t : STree) (ts : List STree) : tokKs f k o n j p (t :: ts) = kidTok f k o n j p t :: tokKs f k o n (j + 1) p ts := by rw [tokKs]; rfl
theorem tokKs_len (f : Bool) (k o : Int) (n : Nat) (p : SPos) : ∀ (ts : List STree) (j : Nat), (tokKs f k o n j p ts).length = ts.length
 | [], j => by rw [tokKs]; rfl
 | t :: ts, j => by rw [tokKs_cons, List.length_cons, tokKs_len f k o n p ts, List.length_cons]
theorem tokB_eq (f : Bool) (t : STree) (p : SPos) : tokB f t p = asmT t.kind t.op t.text (tokKs f t.kind t.op t.kids.length 0 p t.kids) := by
 obtain ⟨k, o, x, y, ks⟩ := t
 rw [tokB]

theorem len_two {α : Type} {l : List α} (h : l.length = 2) : ∃ a b, l = [a, b] := by
 match l, h with
 | [a, b], _ => exact ⟨a, b, rfl⟩
theorem len_three {α : Type} {l : List α} (h : l.length = 3) : ∃ a b c, l = [a, b, c] := by
 match l, h with
 | [a, b, c], _ => exact ⟨a, b, c, rfl⟩
structure GN (t : STree) : Prop where
 e : isE t.kind = true
 lv : lv t.kind t.op ≠ 0
 a0 : t.kind = 1 ∨ t.kind = 2 ∨ t.kind = 3 ∨ t.kind = 4 → t.kids.length = 0
 a1 : t.kind = 6 ∨ t.kind = 9 ∨ t.kind = 10 ∨ t.kind = 11 → t.kids.length = 1
 a2 : t.kind = 12 ∨ t.kind = 15 → t.kids.length = 2
 a3 : t.kind = 14 → t.kids.length = 3
 ai : t.kind = 5 ∨ t.kind = 13 → 1 ≤ t.kids.length
 le : t.kids.length ≤ 400
 ke : ∀ k, k ∈ t.kids → isE k.kind = true
 kl : ∀ k, t.kids[0]? = some k → t.kind = 9 ∨ t.kind = 10 ∨ t.kind = 15 → isL k.kind = true
 op : t.kind = 15 → t.op ≠ 99

theorem allT_hd {P : STree → Prop} {t : STree} (h : allT P t) : P t := by
 obtain ⟨k, o, x, y, ks⟩ := t
 rw [allT] at h
 exact h.1
theorem allT_kids {P : STree → Prop} {t : STree} (h : allT P t) : ∀ k, k ∈ t.kids → allT P k := by
 have key : ∀ ts : List STree, allTs P ts → ∀ k, k ∈ ts → allT P k := by
  intro ts
  induction ts with
  | nil => intro _ k hk; cases hk
  | cons u ts ih =>
   intro h k hk
   rw [allTs] at h
   rcases List.mem_cons.1 hk with rfl | hk
   ·exact h.1
   ·exact ih h.2 k hk
 obtain ⟨k, o, x, y, ks⟩ := t
 rw [allT] at h
 exact key ks h.2

theorem low9 {k : Int} (h : isL k = true) : k ≤ 9 := by
 unfold isL at h
 simp only [Bool.or_eq_true, beq_iff_eq] at h
 omega

theorem tok_rel (f : Bool) : ∀ t : STree, allT GN t → (∀ p q, RelK t.kind p q → tokB f t p = tokB f t q) ∧ (∀ p q, RelP p q → tokE f t p = tokE f t q) := by
 intro t
 induction t using STree.ind with
 | h t ih =>
  intro h
  have g := allT_hd h
  have hk := allT_kids h
  have hB : ∀ p q, RelK t.kind p q → tokB f t p = tokB f t q := fun p q hr => by
   have key : ∀ (ts : List STree) (j : Nat), (∀ k, k ∈ ts → k ∈ t.kids) → (j = 0 → ∀ k, ts[0]? = some k → t.kids[0]? = some k) → tokKs f t.kind t.op t.kids.length j p ts = tokKs f t.kind t.op t.kids.length j q ts := by
    intro ts
    induction ts with
    | nil => intro j _ _; rw [tokKs, tokKs]
    | cons u ts ih2 =>
     intro j hm h0
     have hu := hm u (by simp)
     have hrel := kid_rel (o := t.op) (n := t.kids.length) (j := j) g.e hr
     rw [tokKs_cons, tokKs_cons, ih2 (j + 1) (fun k hk => hm k (by simp [hk])) (fun e => by omega)]
     congr 1
     unfold kidTok
     cases ht : tgt t.kind j with
     | true =>
      have hj : j = 0 := by
       unfold tgt at ht
       simp only [Bool.and_eq_true, beq_iff_eq] at ht
       omega
      have hk9 : u.kind ≤ 9 := low9 (g.kl u (h0 hj u rfl) (by
       unfold tgt at ht
       simp only [Bool.and_eq_true, Bool.or_eq_true, beq_iff_eq] at ht
       exact ht.2))
      exact (ih u hu (hk u hu)).1 _ _ (.inr hk9)
     | false => exact (ih u hu (hk u hu)).2 _ _ hrel
   rw [tokB_eq, tokB_eq, key t.kids 0 (fun k hk => hk) (fun _ k hk => hk)]
  refine ⟨hB, fun p q hr => ?_⟩
  obtain ⟨h1, h2⟩ := fit_rel (o := t.op) g.e hr
  unfold tokE parF
  rw [h1]
  cases f with
  | false =>
   cases hf : fitB t.kind t.op q with
   | true => exact hB p q (h2 (by rw [h1]; exact hf))
   | false => rfl
  | true =>
   cases hx : (lv t.kind t.op != 15 || t.kind == 4) with
   | true => rfl
   | false =>
    -- a node of the highest level: its kids stand on top, or it has none
    simp only [cond_true, parT, cond_false, hx]
    simp only [Bool.or_eq_false_iff, bne_eq_false_iff_eq] at hx
    refine hB p q (.inr ?_)
    have hl := hx.1
    have ho := opLv_le t.op
    rcases kinds g.e with e | e | e | e | e | e | e | e | e | e | e | e | e | e | e <;> rw [e] at hl ⊢ <;> first
     | decide
     | (exfalso; simp [lv] at hl; done)
     | (exfalso; simp [lv] at hl; omega)

theorem commaL_len : ∀ (l : List (List SToken)) (b : Bool), (commaL b l).length ≤ (l.map List.length).sum + l.length
 | [], b => by simp [commaL]
 | x :: xs, b => by
  have := commaL_len xs true
  rw [commaL]
  cases b <;> simp only [cond_true, cond_false, List.length_append, List.map_cons, List.sum_cons, List.length_cons, List.length_nil] <;> omega
theorem getD_len (l : List (List SToken)) (j : Nat) : (l.getD j []).length ≤ (l.map List.length).sum := by
 induction l generalizing j with
 | nil => simp
 | cons x l ih =>
  cases j with
  | zero => simp
  | succ j =>
   have := ih j
   simp only [List.getD_cons_succ, List.map_cons, List.sum_cons]
   omega
theorem asmT_len (k o : Int) (x : List UInt8) (l : List (List SToken)) (h2 : k ≠ 14 → (l.getD 0 []).length + (l.getD 1 []).length ≤ (l.map List.length).sum) (h3 : (l.getD 0 []).length + (l.getD 1 []).length + (l.getD 2 []).length ≤ (l.map List.length).sum) : (asmT k o x l).length ≤ (l.map List.length).sum + l.length + 4 := by
 have c := commaL_len l false
 have g0 := getD_len l 0
 have key : ∀ (b : Bool) (x y : List SToken) (n : Nat), x.length ≤ n → y.length ≤ n → (bif b then x else y).length ≤ n := fun b x y n hx hy => by cases b <;> assumption
 unfold asmT
 repeat' (refine key _ _ _ _ ?_ ?_)
 all_goals (try simp only [List.length_append, List.length_cons, List.length_nil])
 all_goals (try omega)
 ·have := key (decide (l.length > 1)) (sg 32 :: (commaL false l ++ [sg 33])) (l.getD 0 []) ((l.map List.length).sum + l.length + 2) (by simp only [List.length_append, List.length_cons, List.length_nil]; omega) (by omega)
  omega
 ·have := key (o == 99) [] [sg o] 1 (by simp) (by simp)
  by_cases h : k = 14
  ·omega
  ·have := h2 h
   omega
theorem sum3 (l : List (List SToken)) : (l.getD 0 []).length + (l.getD 1 []).length + (l.getD 2 []).length ≤ (l.map List.length).sum := by
 match l with
 | [] => simp
 | [a] => simp
 | [a, b] => simp
 | a :: b :: c :: r => simp; omega
theorem asmT_le (k o : Int) (x : List UInt8) (l : List (List SToken)) : (asmT k o x l).length ≤ (l.map List.length).sum + l.length + 4 := by
 have h := sum3 l
 exact asmT_len k o x l (fun _ => by omega) h

mutual
theorem tokB_len (f : Bool) : ∀ (t : STree) (p : SPos), (tokB f t p).length + 4 ≤ 8 * szT t
 | ⟨k, o, x, y, ks⟩, p => by
  have h1 := asmT_le k o x (tokKs f k o ks.length 0 p ks)
  have h2 := tokKs_sum f k o ks.length p ks 0
  have h3 := tokKs_len f k o ks.length p ks 0
  rw [tokB, szT]
  omega
theorem tokKs_sum (f : Bool) (k o : Int) (n : Nat) (p : SPos) : ∀ (ts : List STree) (j : Nat), ((tokKs f k o n j p ts).map List.length).sum + ts.length ≤ 8 * szTs ts
 | [], j => by rw [tokKs]; simp
 | t :: ts, j => by
  have h1 := tokKs_sum f k o n p ts (j + 1)
  have h2 := tokB_len f t (kidP k o n j p)
  have h3 := tokB_len f t topP
  rw [tokKs, szTs]
  simp only [List.map_cons, List.sum_cons, List.length_cons]
  cases tgt k j <;> simp only [cond_true, cond_false]
  ·unfold parT
   cases parF f t.kind t.op (kidP k o n j p) <;> simp only [cond_true, cond_false, List.length_cons, List.length_append, List.length_nil] <;> omega
  ·omega
end
theorem tokE_len (f : Bool) (t : STree) (p : SPos) : (tokE f t p).length + 2 ≤ 8 * szT t := by
 have h2 := tokB_len f t p
 have h3 := tokB_len f t topP
 unfold tokE parT
 cases parF f t.kind t.op p <;> simp only [cond_true, cond_false, List.length_cons, List.length_append, List.length_nil] <;> omega
theorem kidTok_len (f : Bool) (k o : Int) (n j : Nat) (p : SPos) (t : STree) : (kidTok f k o n j p t).length + 2 ≤ 8 * szT t := by
 unfold kidTok
 have h1 := tokB_len f t (kidP k o n j p)
 have h2 := tokE_len f t (kidP k o n j p)
 cases tgt k j <;> simp only [cond_true, cond_false] <;> omega

end Go.Proofs.Tryz
