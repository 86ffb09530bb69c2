/-
 Plain lemmas on the models, part 5.
-/
import Derived.Test.YtpognfncgfaogaaGreatDoorShAP4
namespace Go.Proofs.Tryz
open Go.Av
set_option maxRecDepth 100000
set_option linter.unusedSimpArgs false
set_option linter.unusedVariables false

def kd (l : List SToken) (i : Nat) : Int := (l[i]?.map (·.Kind)).getD 0
theorem kindI (l : List SToken) (i : Nat) (b : Bool) (ns : List (List UInt8)) : mp_kind l (i : Int) b ns = some (kd l i) := by
 unfold mp_kind kd
 by_cases h : i < l.length
 ·have : decide ((i : Int) ≥ (l.length : Int)) = false := by simp; omega
  rw [this, cond_false, ix_nat h, Option.bind_some, List.getElem?_eq_getElem h]; rfl
 ·have : decide ((i : Int) ≥ (l.length : Int)) = true := by simp; omega
  rw [this, cond_true, List.getElem?_eq_none (by omega)]; rfl
theorem kd_at {l : List SToken} {i : Nat} (h : i < l.length) : kd l i = l[i].Kind := by unfold kd; rw [List.getElem?_eq_getElem h]; rfl
theorem kd_end {l : List SToken} {i : Nat} (h : l.length ≤ i) : kd l i = 0 := by unfold kd; rw [List.getElem?_eq_none h]; rfl
theorem takeI_no {k : Int} {l : List SToken} {i : Nat} (b : Bool) (ns : List (List UInt8)) (h : kd l i ≠ k) : mp_take k l (i : Int) b ns = some (false, (i : Int), true) := by
 unfold mp_take
 have e : (kd l i != k) = true := by simpa using h
 cases b <;> simp only [cond_true, cond_false, kindI, Option.bind_some, e]
theorem takeI_yes {k : Int} {l : List SToken} {i : Nat} (ns : List (List UInt8)) (hi : i ≤ 100000) (h : kd l i = k) : mp_take k l (i : Int) false ns = some (true, ((i + 1 : Nat) : Int), false) := by
 unfold mp_take
 have e : (kd l i != k) = false := by simp [h]
 simp only [cond_false, kindI, Option.bind_some, e]
 rw [wrap64 (by omega) (by omega)]
 rfl
theorem textI {l : List SToken} {i : Nat} (b : Bool) (ns : List (List UInt8)) (hi : i < l.length) (hl : l.length ≤ 100000) : mp_text l (i : Int) b ns = some (l[i].Text, ((i + 1 : Nat) : Int)) := by
 unfold mp_text
 rw [ix_nat hi, Option.bind_some, wrap64 (by omega) (by omega)]
 rfl

def opl (k : Int) : Int := if k = 44 then 3 else if k = 45 then 4 else if k = 67 then 6 else if k = 46 then 6 else if k = 63 then 7 else if k = 48 then 7 else if k = 47 then 7 else if k = 50 then 7 else if k = 62 then 7 else if k = 49 then 7 else if k = 99 then 8 else if k = 55 then 9 else if k = 56 then 9 else if k = 57 then 10 else if k = 58 then 10 else if k = 59 then 10 else if k = 60 then 12 else 0
theorem oplI (k : Int) : mi_OpLevel k = some (opl k) := by
 by_cases h1 : k = 44; · subst h1; rfl
 by_cases h2 : k = 45; · subst h2; rfl
 by_cases h3 : k = 67; · subst h3; rfl
 by_cases h4 : k = 46; · subst h4; rfl
 by_cases h5 : k = 63; · subst h5; rfl
 by_cases h6 : k = 48; · subst h6; rfl
 by_cases h7 : k = 47; · subst h7; rfl
 by_cases h8 : k = 50; · subst h8; rfl
 by_cases h9 : k = 62; · subst h9; rfl
 by_cases h10 : k = 49; · subst h10; rfl
 by_cases h11 : k = 99; · subst h11; rfl
 by_cases h12 : k = 55; · subst h12; rfl
 by_cases h13 : k = 56; · subst h13; rfl
 by_cases h14 : k = 57; · subst h14; rfl
 by_cases h15 : k = 58; · subst h15; rfl
 by_cases h16 : k = 59; · subst h16; rfl
 by_cases h17 : k = 60; · subst h17; rfl
 unfold mi_OpLevel opl
 simp only [h1, h2, h3, h4, h5, h6, h7, h8, h9, h10, h11, h12, h13, h14, h15, h16, h17, beq_eq_false_iff_ne.2, ne_eq, not_false_eq_true, cond_false, if_false, mi_OpLevel_k1, mi_OpLevel_k2, mi_OpLevel_k3, mi_OpLevel_k4]
theorem oplS (k : Int) : ms_OpLevel k = some (opl k) := oplI k
theorem opl_ex (k : Int) : opl k = 0 ∨ opl k = 3 ∧ k = 44 ∨ opl k = 4 ∧ k = 45 ∨ opl k = 6 ∧ (k = 67 ∨ k = 46) ∨ opl k = 7 ∧ (k = 63 ∨ k = 48 ∨ k = 47 ∨ k = 50 ∨ k = 62 ∨ k = 49) ∨ opl k = 8 ∧ k = 99 ∨ opl k = 9 ∧ (k = 55 ∨ k = 56) ∨ opl k = 10 ∧ (k = 57 ∨ k = 58 ∨ k = 59) ∨ opl k = 12 ∧ k = 60 := by
 by_cases h44 : k = 44; · subst h44; decide
 by_cases h45 : k = 45; · subst h45; decide
 by_cases h67 : k = 67; · subst h67; decide
 by_cases h46 : k = 46; · subst h46; decide
 by_cases h63 : k = 63; · subst h63; decide
 by_cases h48 : k = 48; · subst h48; decide
 by_cases h47 : k = 47; · subst h47; decide
 by_cases h50 : k = 50; · subst h50; decide
 by_cases h62 : k = 62; · subst h62; decide
 by_cases h49 : k = 49; · subst h49; decide
 by_cases h99 : k = 99; · subst h99; decide
 by_cases h55 : k = 55; · subst h55; decide
 by_cases h56 : k = 56; · subst h56; decide
 by_cases h57 : k = 57; · subst h57; decide
 by_cases h58 : k = 58; · subst h58; decide
 by_cases h59 : k = 59; · subst h59; decide
 by_cases h60 : k = 60; · subst h60; decide
 refine .inl ?_
 unfold opl
 simp only [h44, h45, h67, h46, h63, h48, h47, h50, h62, h49, h99, h55, h56, h57, h58, h59, h60, if_false]

def isOp (k : Int) : Bool := !(opl k == 0) && !(k == 99)
def sh : Bool → Nat → List SToken → Bool
 | w, d, [] => !w && d == 0
 | true, d, t :: l => bif t.Kind == 32 then sh true (d + 1) l else bif t.Kind == 6 || t.Kind == 3 then sh false d l else false
 | false, 0, t :: l => bif t.Kind == 33 then false else bif isOp t.Kind then sh true 0 l else false
 | false, d + 1, t :: l => bif t.Kind == 33 then sh false d l else bif isOp t.Kind then sh true (d + 1) l else false

theorem shuntI_l (N : Nat) (a : List SToken) (ha : a.length ≤ 1048576) : ∀ (m i d : Nat) (w : Bool), a.length - i < m → d ≤ i → i ≤ a.length → mi_Shunts_l1 N m (a, (d : Int), !w, (i : Int)) = some (sh w d (a.drop i)) := by
 intro m
 induction m with
 | zero => intro i d w h; omega
 | succ m ih =>
  intro i d w hm hd hi
  rw [mi_Shunts_l1]
  by_cases h : i < a.length
  ·have hst : IntKind.wrap .i64 ((i : Int) + 1) = ((i + 1 : Nat) : Int) := by rw [wrap64 (by omega) (by omega)]; omega
   have hup : IntKind.wrap .i64 ((d : Int) + 1) = ((d + 1 : Nat) : Int) := by rw [wrap64 (by omega) (by omega)]; omega
   have p1 := ih (i + 1) (d + 1) true (by omega) (by omega) (by omega)
   have p2 := ih (i + 1) d false (by omega) (by omega) (by omega)
   have p3 := ih (i + 1) (d - 1) false (by omega) (by omega) (by omega)
   have p4 := ih (i + 1) d true (by omega) (by omega) (by omega)
   simp only [Bool.not_true, Bool.not_false] at p1 p2 p3 p4
   rw [drop_cons h]
   have hop : ∀ b : Bool, (bif (opl a[i].Kind) != 0 then bif a[i].Kind != 99 then some b else some false else some false) = some (isOp a[i].Kind && b) := fun b => by
    unfold isOp bne
    cases (opl a[i].Kind == 0) <;> cases (a[i].Kind == 99) <;> cases b <;> rfl
   simp only [lt_true h, cond_true, ix_nat h, Option.bind_some, mi_Shunts_k2, oplI, hst, hup, hop]
   cases w with
   | true =>
    simp only [Bool.not_true, Bool.not_false, Bool.and_false, sh]
    cases (a[i].Kind == 32) with
    | true => simp only [cond_true, Option.bind_some, p1]
    | false =>
     cases (a[i].Kind == 6) <;> cases (a[i].Kind == 3) <;> cases (a[i].Kind == 33) <;> simp only [cond_true, cond_false, Option.bind_some, p2, Bool.or_true, Bool.true_or, Bool.or_false]
   | false =>
    simp only [Bool.not_true, Bool.not_false, Bool.and_true]
    by_cases hd0 : d = 0
    ·subst hd0
     have g1 : decide (((0 : Nat) : Int) > 0) = false := rfl
     simp only [g1, sh]
     cases h33 : (a[i].Kind == 33) with
     | true =>
      have e := eq_of_beq h33
      have : isOp a[i].Kind = false := by rw [e]; rfl
      cases (a[i].Kind == 32) <;> cases (a[i].Kind == 6) <;> cases (a[i].Kind == 3) <;> simp only [cond_true, cond_false, Option.bind_some, this]
     | false =>
      cases (a[i].Kind == 32) <;> cases (a[i].Kind == 6) <;> cases (a[i].Kind == 3) <;> cases isOp a[i].Kind <;> simp only [cond_true, cond_false, Option.bind_some, p4]
    ·obtain ⟨d, rfl⟩ : ∃ k, d = k + 1 := ⟨d - 1, by omega⟩
     have g1 : decide (((d + 1 : Nat) : Int) > 0) = true := decide_eq_true (by omega)
     have hdn : IntKind.wrap .i64 (((d + 1 : Nat) : Int) - 1) = (d : Int) := by rw [wrap64 (by omega) (by omega)]; omega
     rw [Nat.add_sub_cancel] at p3
     simp only [g1, sh, hdn]
     cases h33 : (a[i].Kind == 33) with
     | true =>
      cases (a[i].Kind == 32) <;> cases (a[i].Kind == 6) <;> cases (a[i].Kind == 3) <;> simp only [cond_true, cond_false, Option.bind_some, p3]
     | false =>
      cases (a[i].Kind == 32) <;> cases (a[i].Kind == 6) <;> cases (a[i].Kind == 3) <;> cases isOp a[i].Kind <;> simp only [cond_true, cond_false, Option.bind_some, p4]
  ·rw [lt_false h, cond_false, drop_nil h]
   cases w with
   | true => rfl
   | false =>
    simp only [Bool.not_false, cond_true, Option.bind_some, sh, Bool.true_and]
    cases d with
    | zero => rfl
    | succ d =>
     have : (((d + 1 : Nat) : Int) == 0) = false := by rw [beq_eq_false_iff_ne]; omega
     rw [this]; rfl

theorem sh_want {l : List SToken} {i d : Nat} (h : sh true d (l.drop i) = true) : i < l.length ∧ (kd l i = 32 ∧ sh true (d + 1) (l.drop (i + 1)) = true ∨ (kd l i = 6 ∨ kd l i = 3) ∧ sh false d (l.drop (i + 1)) = true) := by
 by_cases hi : i < l.length
 ·refine ⟨hi, ?_⟩
  rw [drop_cons hi, sh] at h
  rw [kd_at hi]
  cases h32 : (l[i].Kind == 32) with
  | true => rw [h32, cond_true] at h; exact .inl ⟨eq_of_beq h32, h⟩
  | false =>
   rw [h32, cond_false] at h
   cases h6 : (l[i].Kind == 6 || l[i].Kind == 3) with
   | true =>
    rw [h6, cond_true] at h
    rw [Bool.or_eq_true, beq_iff_eq, beq_iff_eq] at h6
    exact .inr ⟨h6, h⟩
   | false => rw [h6, cond_false] at h; cases h
 ·rw [drop_nil hi, sh] at h
  simp at h
theorem sh_have {l : List SToken} {j d : Nat} (h : sh false d (l.drop j) = true) : l.length ≤ j ∧ d = 0 ∧ kd l j = 0 ∨ j < l.length ∧ kd l j = 33 ∧ 1 ≤ d ∧ sh false (d - 1) (l.drop (j + 1)) = true ∨ j < l.length ∧ isOp (kd l j) = true ∧ sh true d (l.drop (j + 1)) = true := by
 by_cases hi : j < l.length
 ·rw [drop_cons hi] at h
  rw [kd_at hi]
  cases d with
  | zero =>
   rw [sh] at h
   cases h33 : (l[j].Kind == 33) with
   | true => rw [h33, cond_true] at h; cases h
   | false =>
    rw [h33, cond_false] at h
    cases ho : isOp l[j].Kind with
    | true => rw [ho, cond_true] at h; exact .inr (.inr ⟨hi, rfl, h⟩)
    | false => rw [ho, cond_false] at h; cases h
  | succ d =>
   rw [sh] at h
   cases h33 : (l[j].Kind == 33) with
   | true => rw [h33, cond_true] at h; exact .inr (.inl ⟨hi, eq_of_beq h33, by omega, h⟩)
   | false =>
    rw [h33, cond_false] at h
    cases ho : isOp l[j].Kind with
    | true => rw [ho, cond_true] at h; exact .inr (.inr ⟨hi, rfl, h⟩)
    | false => rw [ho, cond_false] at h; cases h
 ·rw [drop_nil hi, sh] at h
  simp at h
  exact .inl ⟨by omega, h, kd_end (by omega)⟩
theorem sh_36 : ∀ (l : List SToken) (w : Bool) (d : Nat), sh w d l = true → ∀ t, t ∈ l → t.Kind ≠ 36
 | [], _, _, _, t, ht => by cases ht
 | t :: l, w, d, h, u, hu => by
  have key : (∃ w' d', sh w' d' l = true) ∧ t.Kind ≠ 36 := by
   cases w with
   | true =>
    rw [sh] at h
    cases h32 : (t.Kind == 32) with
    | true => rw [h32, cond_true] at h; exact ⟨⟨_, _, h⟩, by rw [eq_of_beq h32]; decide⟩
    | false =>
     rw [h32, cond_false] at h
     cases h6 : (t.Kind == 6 || t.Kind == 3) with
     | true =>
      rw [h6, cond_true] at h
      rw [Bool.or_eq_true, beq_iff_eq, beq_iff_eq] at h6
      exact ⟨⟨_, _, h⟩, by rcases h6 with e | e <;> rw [e] <;> decide⟩
     | false => rw [h6, cond_false] at h; cases h
   | false =>
    have ho : ∀ b, isOp t.Kind = b → b = true → t.Kind ≠ 36 := fun b hb hbt e => by
     rw [e] at hb; subst hbt; revert hb; decide
    cases d with
    | zero =>
     rw [sh] at h
     cases h33 : (t.Kind == 33) with
     | true => rw [h33, cond_true] at h; cases h
     | false =>
      rw [h33, cond_false] at h
      cases h1 : isOp t.Kind with
      | true => rw [h1, cond_true] at h; exact ⟨⟨_, _, h⟩, ho _ h1 rfl⟩
      | false => rw [h1, cond_false] at h; cases h
    | succ d =>
     rw [sh] at h
     cases h33 : (t.Kind == 33) with
     | true => rw [h33, cond_true] at h; exact ⟨⟨_, _, h⟩, by rw [eq_of_beq h33]; decide⟩
     | false =>
      rw [h33, cond_false] at h
      cases h1 : isOp t.Kind with
      | true => rw [h1, cond_true] at h; exact ⟨⟨_, _, h⟩, ho _ h1 rfl⟩
      | false => rw [h1, cond_false] at h; cases h
  obtain ⟨⟨w', d', h'⟩, hk⟩ := key
  rcases List.mem_cons.1 hu with rfl | hu
  ·exact hk
  ·exact sh_36 l w' d' h' u hu
theorem isOp_ex {k : Int} (h : isOp k = true) : opl k = 3 ∧ k = 44 ∨ opl k = 4 ∧ k = 45 ∨ opl k = 6 ∧ (k = 67 ∨ k = 46) ∨ opl k = 7 ∧ (k = 63 ∨ k = 48 ∨ k = 47 ∨ k = 50 ∨ k = 62 ∨ k = 49) ∨ opl k = 9 ∧ (k = 55 ∨ k = 56) ∨ opl k = 10 ∧ (k = 57 ∨ k = 58 ∨ k = 59) ∨ opl k = 12 ∧ k = 60 := by
 unfold isOp at h
 rw [Bool.and_eq_true, Bool.not_eq_true', Bool.not_eq_true', beq_eq_false_iff_ne, beq_eq_false_iff_ne] at h
 have := opl_ex k
 omega
def opB (k : Int) : Bool := k == 32 || (k == 34 || k == 30)
def clB (k : Int) : Bool := k == 33 || (k == 35 || k == 31)
theorem opI (k : Int) : mi_opens k = some (opB k) := by
 unfold mi_opens opB
 cases (k == 32) <;> cases (k == 34) <;> rfl
theorem clI (k : Int) : mi_shuts k = some (clB k) := by
 unfold mi_shuts clB
 cases (k == 33) <;> cases (k == 35) <;> rfl
theorem opS (k : Int) : ms_l10Open k = some (opB k) := opI k
theorem clS (k : Int) : ms_l10Close k = some (clB k) := clI k
theorem op_cl {k : Int} (h : opB k = true) : clB k = false ∧ (k == 36) = false := by
 unfold opB at h
 simp only [Bool.or_eq_true, beq_iff_eq] at h
 rcases h with h | h | h <;> subst h <;> decide
theorem nest_l (l : List SToken) (hl : l.length ≤ 3000) (N N' : Nat) : ∀ (n n' i d : Nat), l.length - i < n → l.length - i < n' → d ≤ i →
  ∃ r : Int, mi_NestOf_l1 N n (l, (d : Int), (i : Int)) = some r ∧ ms_NestOf_l1 N' n' (l, (d : Int), (i : Int)) = some r ∧ (r = -1 ∨ ∃ k : Nat, r = (k : Int) ∧ k < l.length) := by
 intro n
 induction n with
 | zero => intro n' i d h; omega
 | succ n ih =>
  intro n' i d hn hn' hd
  obtain ⟨n', rfl⟩ : ∃ k, n' = k + 1 := ⟨n' - 1, by omega⟩
  rw [mi_NestOf_l1, ms_NestOf_l1]
  by_cases hi : i < l.length
  ·simp only [lt_true hi, cond_true, ix_nat hi, Option.bind_some, opI, clI, clS]
   have next : ∀ d' : Nat, d' ≤ i + 1 → ∃ r : Int, mi_NestOf_k2 N (mi_NestOf_l1 N n) ((i : Int), l, (d' : Int)) = some r ∧ ms_NestOf_k3 N' (ms_NestOf_l1 N' n') (l, (i : Int), (d' : Int)) = some r ∧ (r = -1 ∨ ∃ k : Nat, r = (k : Int) ∧ k < l.length) := fun d' hd' => by
    unfold mi_NestOf_k2 ms_NestOf_k3
    simp only []
    cases decide ((d' : Int) > 40) with
    | true => exact ⟨_, rfl, rfl, Or.inr ⟨i, rfl, hi⟩⟩
    | false =>
     simp only [cond_false]
     rw [wrap64 (by omega) (by omega), show ((i : Int) + 1) = ((i + 1 : Nat) : Int) by omega]
     exact ih n' (i + 1) d' (by omega) (by omega) hd'
   cases ho : opB l[i].Kind with
   | true =>
    obtain ⟨o1, _⟩ := op_cl ho
    simp only [o1, cond_true, cond_false]
    unfold ms_NestOf_k2
    simp only [ix_nat hi, Option.bind_some, opS, ho, cond_true]
    rw [wrap64 (by omega) (by omega), show ((d : Int) + 1) = ((d + 1 : Nat) : Int) by omega]
    exact next (d + 1) (by omega)
   | false =>
    simp only [cond_false]
    cases hc : clB l[i].Kind with
    | true =>
     simp only [cond_true]
     unfold ms_NestOf_k2
     simp only [ix_nat hi, Option.bind_some, opS, ho, cond_false]
     rw [wrap64 (by omega) (by omega)]
     have e1 : (if 0 > (d : Int) - 1 then 0 else (d : Int) - 1) = ((d - 1 : Nat) : Int) := by split <;> omega
     have e2 : (if (d : Int) - 1 > 0 then (d : Int) - 1 else 0) = ((d - 1 : Nat) : Int) := by split <;> omega
     rw [e1, e2]
     exact next (d - 1) (by omega)
    | false =>
     simp only [cond_false]
     unfold ms_NestOf_k2
     simp only [ix_nat hi, Option.bind_some, opS, ho, cond_false]
     exact next d (by omega)
  ·simp only [lt_false hi, cond_false]
   exact ⟨-1, rfl, rfl, Or.inl rfl⟩


def bin2 (o : Int) (a b : STree) : STree := ⟨12, o, [], [], [a, b]⟩
def red : List Int → List STree → Option STree
 | [], [t] => some t
 | o :: os, b :: a :: ts => red os (bin2 o a b :: ts)
 | _, _ => none
theorem red_app : ∀ (P : List Int) (Q : List STree) (t : STree), red P Q = some t → ∀ (o : Int) (P3 : List Int) (a : STree) (Q3 : List STree), red (P ++ o :: P3) (Q ++ a :: Q3) = red P3 (bin2 o a t :: Q3)
 | [], [], t, h, _, _, _, _ => by simp [red] at h
 | [], [t'], t, h, o, P3, a, Q3 => by
  rw [red] at h
  cases h
  rfl
 | [], _ :: _ :: _, t, h, _, _, _, _ => by simp [red] at h
 | o' :: P, [], t, h, _, _, _, _ => by simp [red] at h
 | o' :: P, [_], t, h, _, _, _, _ => by simp [red] at h
 | o' :: P, b :: a' :: Q, t, h, o, P3, a, Q3 => by
  rw [red] at h
  exact red_app P (bin2 o' a' b :: Q) t h o P3 a Q3
theorem red_sz : ∀ (P : List Int) (Q : List STree) (t : STree), red P Q = some t → szT t = szTs Q + P.length
 | [], [], t, h => by simp [red] at h
 | [], [t'], t, h => by
  rw [red] at h
  cases h
  simp [szTs]
 | [], _ :: _ :: _, t, h => by simp [red] at h
 | o' :: P, [], t, h => by simp [red] at h
 | o' :: P, [_], t, h => by simp [red] at h
 | o' :: P, b :: a' :: Q, t, h => by
  rw [red] at h
  have := red_sz P (bin2 o' a' b :: Q) t h
  simp only [szTs, bin2, szT, List.length_cons] at this ⊢
  omega
theorem red_cons {o : Int} {P : List Int} {Q : List STree} {t : STree} (h : red (o :: P) Q = some t) : ∃ b a Q', Q = b :: a :: Q' ∧ red P (bin2 o a b :: Q') = some t := by
 match Q, h with
 | [], h => simp [red] at h
 | [_], h => simp [red] at h
 | b :: a :: Q', h => exact ⟨b, a, Q', rfl, h⟩
theorem red_nil {Q : List STree} {t : STree} (h : red [] Q = some t) : Q = [t] := by
 match Q, h with
 | [], h => simp [red] at h
 | [x], h => rw [red] at h; cases h; rfl
 | _ :: _ :: _, h => simp [red] at h

def yT (ts : List STree) : List (List SNode) := (ts.map (lst 0)).reverse
theorem yT_cons (t : STree) (ts : List STree) : yT (t :: ts) = yT ts ++ [lst 0 t] := by unfold yT; simp
theorem yT_len (ts : List STree) : (yT ts).length = ts.length := by unfold yT; simp
theorem rev_cons (o : Int) (os : List Int) : (o :: os).reverse = os.reverse ++ [o] := by simp
theorem cut_init {α : Type} (X Y : List α) : cut (X ++ Y) 0 (X.length : Int) = some X := by
 have := cut_nat (l := X ++ Y) (a := 0) (b := X.length) (by omega) (by simp)
 rw [List.drop_zero, Nat.sub_zero, List.take_left' rfl] at this
 exact this
theorem ix_last {α : Type} (X : List α) (x : α) : ix (X ++ [x]) (X.length : Int) = some x := ix_get (by simp)

theorem join_is (N : Nat) (hN : 1048577 < N) (o : Int) (os : List Int) (a b : STree) (ts : List STree) (ho : os.length ≤ 100000) (hs : szTs (b :: a :: ts) ≤ 100000) :
  ms_l37Join N (o :: os).reverse (yT (b :: a :: ts)) = some ⟨os.reverse, yT (bin2 o a b :: ts)⟩ := by
 have hl := szTs_len ts
 simp only [szTs] at hs
 rw [rev_cons, yT_cons, yT_cons, yT_cons]
 have hX : os.reverse.length ≤ 100000 := by simpa using ho
 have hY : (yT ts).length ≤ 100000 := by rw [yT_len]; omega
 generalize os.reverse = X at hX
 generalize yT ts = Y at hY
 unfold ms_l37Join
 have w1 : IntKind.wrap .i64 (((X ++ [o]).length : Int) - 1) = (X.length : Int) := by rw [wrap64 (by first | (simp; done) | (simp; omega)) (by first | (simp; done) | (simp; omega))]; simp
 have w2 : IntKind.wrap .i64 (((Y ++ [lst 0 a] ++ [lst 0 b]).length : Int) - 2) = (Y.length : Int) := by rw [wrap64 (by first | (simp; done) | (simp; omega)) (by first | (simp; done) | (simp; omega))]; first | (simp; done) | (simp; omega)
 have w3 : IntKind.wrap .i64 (((Y ++ [lst 0 a] ++ [lst 0 b]).length : Int) - 1) = ((Y ++ [lst 0 a]).length : Int) := by rw [wrap64 (by first | (simp; done) | (simp; omega)) (by first | (simp; done) | (simp; omega))]; first | (simp; done) | (simp; omega)
 have e2 : ix (Y ++ [lst 0 a] ++ [lst 0 b]) (Y.length : Int) = some (lst 0 a) := ix_get (by simp)
 have e3 : ix (Y ++ [lst 0 a] ++ [lst 0 b]) ((Y ++ [lst 0 a]).length : Int) = some (lst 0 b) := ix_last _ _
 have mk := make_is N ⟨12, o, [], [], []⟩ [a, b] hN (by simp only [szTs]; omega)
 have mk' : ms_l6Make N ⟨12, o, [], [], []⟩ [lst 0 a, lst 0 b] = some (lst 0 (bin2 o a b)) := mk
 have c2 : cut (Y ++ [lst 0 a] ++ [lst 0 b]) 0 (Y.length : Int) = some Y := by rw [List.append_assoc]; exact cut_init _ _
 have a1 : app 24 [] Y = some Y := app_some (l := []) (by simp; omega)
 have a2 : app 24 Y [lst 0 (bin2 o a b)] = some (Y ++ [lst 0 (bin2 o a b)]) := app_some (by simp; omega)
 simp only [w1, w2, w3, ix_last, e2, e3, Option.bind_some, mk', cut_init, c2, a1, a2]

def badB (o k : Int) : Bool := !(o == 0) && ((opl o == opl k) && (opl k == 6 || opl k == 7))
def firstB (o k : Int) : Bool := bif (o == 0 || decide (opl o < opl k)) then false else (decide (opl o > opl k) || k != 60)
theorem badS (o k : Int) : ms_l37Bad o k = some (badB o k) := by
 unfold ms_l37Bad badB bne
 simp only [oplS, Option.bind_some]
 cases (o == 0) <;> cases (opl o == opl k) <;> cases (opl k == 6) <;> rfl
theorem firstS (o k : Int) : ms_l37First o k = some (firstB o k) := by
 unfold ms_l37First firstB
 simp only [oplS, Option.bind_some]
 cases (o == 0) <;> cases decide (opl o < opl k) <;> cases decide (opl o > opl k) <;> rfl

theorem topL (o : Int) (os : List Int) (h : os.length ≤ 100000) : decide (((o :: os).reverse.length : Int) > 0) = true ∧ ix (o :: os).reverse (IntKind.wrap .i64 (((o :: os).reverse.length : Int) - 1)) = some o := by
 refine ⟨decide_eq_true (by first | (simp; done) | (simp; omega)), ?_⟩
 rw [rev_cons]
 have hX : os.reverse.length ≤ 100000 := by simpa using h
 rw [wrap64 (by first | (simp; done) | (simp; omega)) (by first | (simp; done) | (simp; omega))]
 have : (((os.reverse ++ [o]).length : Int) - 1) = (os.reverse.length : Int) := by simp
 rw [this]
 exact ix_last _ _

abbrev YK := ((List SToken) × Int × (List Int) × (List (List SNode))) → Option ((List SNode) × Bool)
section
set_option linter.unusedSectionVars false
variable {N : Nat} (hN : 1048577 < N) (kb : YK) (l : List SToken) (i : Nat) (hi : i ≤ 100000)
include hN hi

theorem l4_pop (n : Nat) (tk : SToken) (o : Int) (os : List Int) (a b : STree) (ts : List STree) (ho : os.length ≤ 100000) (hs : szTs (b :: a :: ts) ≤ 100000) (h1 : badB o tk.Kind = false) (h2 : firstB o tk.Kind = true) :
  ms_Shunt_l4 N kb (n + 1) (l, (i : Int), tk, (o :: os).reverse, yT (b :: a :: ts)) = ms_Shunt_l4 N kb n (l, (i : Int), tk, os.reverse, yT (bin2 o a b :: ts)) := by
 obtain ⟨t1, t2⟩ := topL o os ho
 have hj := join_is N hN o os a b ts ho hs
 rw [ms_Shunt_l4]
 simp only [t1, t2, cond_true, Option.bind_some, badS, firstS, h1, h2, Bool.not_false, hj]
theorem l4_bad (n : Nat) (tk : SToken) (o : Int) (os : List Int) (T : List (List SNode)) (ho : os.length ≤ 100000) (h1 : badB o tk.Kind = true) :
  ms_Shunt_l4 N kb (n + 1) (l, (i : Int), tk, (o :: os).reverse, T) = some ([], false) := by
 obtain ⟨t1, t2⟩ := topL o os ho
 rw [ms_Shunt_l4]
 simp only [t1, t2, cond_true, cond_false, Option.bind_some, badS, firstS, h1, Bool.not_true]
theorem l4_push (n : Nat) (tk : SToken) (os : List Int) (T : List (List SNode)) (ho : os.length ≤ 100000) (h : ∀ o os', os = o :: os' → badB o tk.Kind = false ∧ firstB o tk.Kind = false) :
  ms_Shunt_l4 N kb (n + 1) (l, (i : Int), tk, os.reverse, T) = kb (l, ((i + 1 : Nat) : Int), (tk.Kind :: os).reverse, T) := by
 have ap : app 8 os.reverse [tk.Kind] = some (tk.Kind :: os).reverse := by rw [rev_cons]; exact app_some (by simp; omega)
 have w : IntKind.wrap .i64 ((i : Int) + 1) = ((i + 1 : Nat) : Int) := by rw [wrap64 (by omega) (by omega)]; omega
 rw [ms_Shunt_l4]
 cases os with
 | nil =>
  have z : decide ((([] : List Int).reverse.length : Int) > 0) = false := rfl
  simp only [z, cond_false, Option.bind_some, ap]
  unfold ms_Shunt_k2
  simp only [w]
 | cons o os =>
  obtain ⟨t1, t2⟩ := topL o os (by simp at ho; omega)
  obtain ⟨h1, h2⟩ := h o os rfl
  simp only [t1, t2, cond_true, cond_false, Option.bind_some, badS, firstS, h1, h2, Bool.not_false, ap]
  unfold ms_Shunt_k2
  simp only [w]
omit hN hi in
theorem pop_ok {o k : Int} (h : opl k < opl o) : badB o k = false ∧ firstB o k = true := by
 have := opl_ex k
 have h0 : (o == 0) = false := by
  rw [beq_eq_false_iff_ne]; intro e; subst e
  have : opl 0 = 0 := rfl
  omega
 refine ⟨?_, ?_⟩
 ·unfold badB
  rw [beq_eq_false_iff_ne.2 (show opl o ≠ opl k by omega), Bool.false_and, Bool.and_false]
 ·unfold firstB
  rw [h0, Bool.false_or, decide_eq_false (by omega), cond_false, decide_eq_true h, Bool.true_or]
theorem l4_flush (tk : SToken) (os : List Int) (ts : List STree) : ∀ (P : List Int) (Q : List STree) (t : STree) (n : Nat), red P Q = some t → (∀ o, o ∈ P → badB o tk.Kind = false ∧ firstB o tk.Kind = true) → szTs (Q ++ ts) + (P ++ os).length ≤ 50000 →
  ms_Shunt_l4 N kb (P.length + n) (l, (i : Int), tk, (P ++ os).reverse, yT (Q ++ ts)) = ms_Shunt_l4 N kb n (l, (i : Int), tk, os.reverse, yT (t :: ts)) := by
 intro P
 induction P with
 | nil =>
  intro Q t n h _ _
  rw [red_nil h, List.length_nil, Nat.zero_add]
  rfl
 | cons o P ih =>
  intro Q t n h hP hs
  obtain ⟨b, a, Q', rfl, h'⟩ := red_cons h
  simp only [List.cons_append, szTs, List.length_cons] at hs
  obtain ⟨p1, p2⟩ := hP o (by simp)
  rw [show (o :: P).length + n = (P.length + n) + 1 by simp; omega]
  rw [List.cons_append, List.cons_append, List.cons_append, l4_pop hN kb l i hi (P.length + n) tk o (P ++ os) a b (Q' ++ ts) (by omega) (by simp only [szTs]; omega) p1 p2]
  refine ih (bin2 o a b :: Q') t n h' (fun o' ho' => hP o' (by simp [ho'])) ?_
  simp only [List.cons_append, szTs, bin2, szT]
  omega
theorem l4_dead (tk : SToken) (os : List Int) (ts : List STree) (o : Int) (P2 : List Int) (hb : badB o tk.Kind = true) : ∀ (P1 : List Int) (Q : List STree) (t : STree) (n : Nat), red (P1 ++ o :: P2) Q = some t → (∀ o', o' ∈ P1 → opl tk.Kind < opl o') → szTs (Q ++ ts) + (P1 ++ o :: P2 ++ os).length ≤ 50000 →
  ms_Shunt_l4 N kb (P1.length + (n + 1)) (l, (i : Int), tk, (P1 ++ o :: P2 ++ os).reverse, yT (Q ++ ts)) = some ([], false) := by
 intro P1
 induction P1 with
 | nil =>
  intro Q t n h _ hs
  rw [List.length_nil, Nat.zero_add, List.nil_append, List.cons_append]
  simp at hs
  exact l4_bad hN kb l i hi n tk o (P2 ++ os) _ (by simp; omega) hb
 | cons o' P1 ih =>
  intro Q t n h hP hs
  rw [List.cons_append] at h
  obtain ⟨b, a, Q', rfl, h'⟩ := red_cons h
  simp only [List.cons_append, szTs, List.length_cons] at hs
  obtain ⟨p1, p2⟩ := pop_ok (hP o' (by simp))
  rw [show (o' :: P1).length + (n + 1) = (P1.length + (n + 1)) + 1 by simp; omega]
  rw [List.cons_append, List.cons_append, List.cons_append, List.cons_append, l4_pop hN kb l i hi (P1.length + (n + 1)) tk o' (P1 ++ o :: P2 ++ os) a b (Q' ++ ts) (by omega) (by simp only [szTs]; omega) p1 p2]
  refine ih (bin2 o' a b :: Q') t n h' (fun x hx => hP x (by simp [hx])) ?_
  simp only [List.cons_append, szTs, bin2, szT]
  omega
theorem l3_flush (os : List Int) (ts : List STree) : ∀ (P : List Int) (Q : List STree) (t : STree) (n : Nat), red P Q = some t → (∀ o, o ∈ P → o ≠ 0) → szTs (Q ++ ts) + (P ++ 0 :: os).length ≤ 50000 →
  ms_Shunt_l3 N kb (P.length + (n + 1)) (l, (i : Int), (P ++ 0 :: os).reverse, yT (Q ++ ts)) = kb (l, ((i + 1 : Nat) : Int), os.reverse, yT (t :: ts)) := by
 intro P
 induction P with
 | nil =>
  intro Q t n h _ hs
  rw [red_nil h, List.length_nil, Nat.zero_add, List.nil_append]
  simp at hs
  obtain ⟨t1, t2⟩ := topL 0 os (by omega)
  have w : IntKind.wrap .i64 ((i : Int) + 1) = ((i + 1 : Nat) : Int) := by rw [wrap64 (by omega) (by omega)]; omega
  have hX : os.reverse.length ≤ 100000 := by simp; omega
  have w2 : IntKind.wrap .i64 (((0 :: os).reverse.length : Int) - 1) = (os.reverse.length : Int) := by rw [wrap64 (by first | (simp; done) | (simp; omega)) (by first | (simp; done) | (simp; omega))]; first | (simp; done) | (simp; omega)
  have cu : cut (0 :: os).reverse 0 (os.reverse.length : Int) = some os.reverse := by rw [rev_cons]; exact cut_init _ _
  have n0 : ((0 : Int) != 0) = false := rfl
  rw [ms_Shunt_l3]
  simp only [t2, Option.bind_some, n0, cond_false]
  rw [w2, cu, Option.bind_some]
  unfold ms_Shunt_k2
  simp only [w]
  rfl
 | cons o P ih =>
  intro Q t n h hP hs
  obtain ⟨b, a, Q', rfl, h'⟩ := red_cons h
  simp only [List.cons_append, szTs, List.length_cons] at hs
  obtain ⟨t1, t2⟩ := topL o (P ++ 0 :: os) (by omega)
  have hj := join_is N hN o (P ++ 0 :: os) a b (Q' ++ ts) (by omega) (by simp only [szTs]; omega)
  have n0 : (o != 0) = true := by rw [bne_iff_ne]; exact hP o (by simp)
  rw [show (o :: P).length + (n + 1) = (P.length + (n + 1)) + 1 by simp; omega, ms_Shunt_l3]
  rw [List.cons_append, List.cons_append, List.cons_append, t2]
  simp only [Option.bind_some, n0, cond_true, hj]
  refine ih (bin2 o a b :: Q') t n h' (fun o' ho' => hP o' (by simp [ho'])) ?_
  simp only [List.cons_append, szTs, bin2, szT]
  omega
theorem l5_flush (c : Bool) : ∀ (P : List Int) (Q : List STree) (t : STree) (n : Nat), red P Q = some t → ms_TreeOk N (lst 0 t) = some c → szTs Q + P.length ≤ 50000 →
  ms_Shunt_l5 N kb (P.length + (n + 1)) (P.reverse, yT Q) = some (bif c then (lst 0 t, true) else ([], false)) := by
 intro P
 induction P with
 | nil =>
  intro Q t n h hc hs
  rw [red_nil h, List.length_nil, Nat.zero_add, ms_Shunt_l5]
  have z : decide ((([] : List Int).reverse.length : Int) > 0) = false := rfl
  have e : ix (yT [t]) 0 = some (lst 0 t) := rfl
  simp only [z, cond_false, e, Option.bind_some, hc]
  cases c <;> rfl
 | cons o P ih =>
  intro Q t n h hc hs
  obtain ⟨b, a, Q', rfl, h'⟩ := red_cons h
  simp only [szTs, List.length_cons] at hs
  obtain ⟨t1, t2⟩ := topL o P (by omega)
  have hj := join_is N hN o P a b Q' (by omega) (by simp only [szTs]; omega)
  rw [show (o :: P).length + (n + 1) = (P.length + (n + 1)) + 1 by simp; omega, ms_Shunt_l5]
  simp only [t1, cond_true, hj, Option.bind_some]
  refine ih (bin2 o a b :: Q') t n h' hc ?_
  simp only [szTs, bin2, szT]
  omega
end

def Yd (N : Nat) (l : List SToken) (i : Nat) (os : List Int) (ts : List STree) (r : List SNode × Bool) : Prop := ∀ n, l.length - i < n → ms_Shunt_l1 N n (l, (i : Int), os.reverse, yT ts) = some r
section
set_option linter.unusedSectionVars false
variable {N : Nat} (hN : 1048577 < N) {l : List SToken} (hl : l.length ≤ 3000) {i : Nat}
include hN hl

theorem Yd.leaf {os : List Int} {ts : List STree} {r : List SNode × Bool} (hi : i < l.length) (k : Int) (hk : l[i].Kind = 6 ∧ k = 1 ∨ l[i].Kind = 3 ∧ k = 2) (hs : szTs ts ≤ 5000) (h : Yd N l (i + 1) os (⟨k, 0, l[i].Text, [], []⟩ :: ts) r) : Yd N l i os ts r := by
 intro n hn
 obtain ⟨n, rfl⟩ : ∃ m, n = m + 1 := ⟨n - 1, by omega⟩
 have hlen := szTs_len ts
 have h := h n (by omega)
 rw [yT_cons] at h
 have w : IntKind.wrap .i64 ((i : Int) + 1) = ((i + 1 : Nat) : Int) := by rw [wrap64 (by omega) (by omega)]; omega
 have ap : ∀ x : List SNode, app 24 (yT ts) [x] = some (yT ts ++ [x]) := fun x => app_some (by rw [yT_len]; simp; omega)
 rw [ms_Shunt_l1]
 simp only [lt_true hi, cond_true, ix_nat hi, Option.bind_some]
 unfold ms_Shunt_k2
 rcases hk with ⟨hk, rfl⟩ | ⟨hk, rfl⟩
 ·simp only [hk, Int.reduceBEq, cond_true, ap, Option.bind_some, w]
  exact h
 ·simp only [hk, Int.reduceBEq, cond_true, cond_false, ap, Option.bind_some, w]
  exact h
theorem Yd.opens {os : List Int} {ts : List STree} {r : List SNode × Bool} (hi : i < l.length) (hk : l[i].Kind = 32) (hs : os.length ≤ 5000) (h : Yd N l (i + 1) (0 :: os) ts r) : Yd N l i os ts r := by
 intro n hn
 obtain ⟨n, rfl⟩ : ∃ m, n = m + 1 := ⟨n - 1, by omega⟩
 have h := h n (by omega)
 have w : IntKind.wrap .i64 ((i : Int) + 1) = ((i + 1 : Nat) : Int) := by rw [wrap64 (by omega) (by omega)]; omega
 have ap : app 8 os.reverse [0] = some (0 :: os).reverse := by rw [rev_cons]; exact app_some (by simp; omega)
 rw [ms_Shunt_l1]
 simp only [lt_true hi, cond_true, ix_nat hi, Option.bind_some, hk, Int.reduceBEq, cond_false, ap]
 unfold ms_Shunt_k2
 simp only [w]
 exact h
theorem Yd.shuts {os : List Int} {ts : List STree} {r : List SNode × Bool} (hi : i < l.length) (hk : l[i].Kind = 33) {P : List Int} {Q : List STree} {t : STree} (hr : red P Q = some t) (hP : ∀ o, o ∈ P → o ≠ 0) (hs : szTs (Q ++ ts) + (P ++ 0 :: os).length ≤ 5000) (h : Yd N l (i + 1) os (t :: ts) r) : Yd N l i (P ++ 0 :: os) (Q ++ ts) r := by
 intro n hn
 obtain ⟨n, rfl⟩ : ∃ m, n = m + 1 := ⟨n - 1, by omega⟩
 have h := h n (by omega)
 rw [ms_Shunt_l1]
 simp only [lt_true hi, cond_true, ix_nat hi, Option.bind_some, hk, Int.reduceBEq, cond_false]
 have hp : P.length ≤ 5000 := by rw [List.length_append] at hs; omega
 have := l3_flush hN (ms_Shunt_l1 N n) l i (by omega) os ts P Q t (N - P.length - 1) hr hP (by omega)
 rw [show P.length + (N - P.length - 1 + 1) = N by omega] at this
 rw [this]
 exact h
theorem Yd.op {os : List Int} {ts : List STree} {r : List SNode × Bool} (hi : i < l.length) {k : Int} (hk : l[i].Kind = k) (ho : isOp k = true) {P : List Int} {Q : List STree} {t : STree} (hr : red P Q = some t) (hP : ∀ o, o ∈ P → badB o k = false ∧ firstB o k = true) (hst : ∀ o os', os = o :: os' → badB o k = false ∧ firstB o k = false)
  (hs : szTs (Q ++ ts) + (P ++ os).length ≤ 5000) (h : Yd N l (i + 1) (k :: os) (t :: ts) r) : Yd N l i (P ++ os) (Q ++ ts) r := by
 subst hk
 intro n hn
 obtain ⟨n, rfl⟩ : ∃ m, n = m + 1 := ⟨n - 1, by omega⟩
 have h := h n (by omega)
 have hx := isOp_ex ho
 rw [ms_Shunt_l1]
 have b1 : (l[i].Kind == 6) = false := by rw [beq_eq_false_iff_ne]; omega
 have b2 : (l[i].Kind == 3) = false := by rw [beq_eq_false_iff_ne]; omega
 have b3 : (l[i].Kind == 32) = false := by rw [beq_eq_false_iff_ne]; omega
 have b4 : (l[i].Kind == 33) = false := by rw [beq_eq_false_iff_ne]; omega
 simp only [lt_true hi, cond_true, ix_nat hi, Option.bind_some, b1, b2, b3, b4, cond_false]
 have hp : P.length ≤ 5000 := by rw [List.length_append] at hs; omega
 have ho5 : os.length ≤ 5000 := by rw [List.length_append] at hs; omega
 have := l4_flush hN (ms_Shunt_l1 N n) l i (by omega) l[i] os ts P Q t (N - P.length - 1 + 1) hr hP (by omega)
 rw [show P.length + (N - P.length - 1 + 1) = N by omega] at this
 rw [this, l4_push hN (ms_Shunt_l1 N n) l i (by omega) (N - P.length - 1) l[i] os _ (by omega) hst]
 exact h
def BadAt (P : List Int) (m : Int) : Prop := ∃ P1 o P2, P = P1 ++ o :: P2 ∧ opl o = m ∧ (m = 6 ∨ m = 7) ∧ ∀ o', o' ∈ P1 → m < opl o'
theorem Yd.dead {os : List Int} {ts : List STree} (hi : i < l.length) {k : Int} (hk : l[i].Kind = k) (ho : isOp k = true) {P : List Int} {Q : List STree} {t : STree} (hr : red P Q = some t) (hb : BadAt P (opl k))
  (hs : szTs (Q ++ ts) + (P ++ os).length ≤ 5000) : Yd N l i (P ++ os) (Q ++ ts) ([], false) := by
 subst hk
 intro n hn
 obtain ⟨n, rfl⟩ : ∃ m, n = m + 1 := ⟨n - 1, by omega⟩
 have hx := isOp_ex ho
 rw [ms_Shunt_l1]
 have b1 : (l[i].Kind == 6) = false := by rw [beq_eq_false_iff_ne]; omega
 have b2 : (l[i].Kind == 3) = false := by rw [beq_eq_false_iff_ne]; omega
 have b3 : (l[i].Kind == 32) = false := by rw [beq_eq_false_iff_ne]; omega
 have b4 : (l[i].Kind == 33) = false := by rw [beq_eq_false_iff_ne]; omega
 simp only [lt_true hi, cond_true, ix_nat hi, Option.bind_some, b1, b2, b3, b4, cond_false]
 obtain ⟨P1, o, P2, rfl, g1, g2, g3⟩ := hb
 have hp : P1.length ≤ 5000 := by simp at hs; omega
 have hbad : badB o l[i].Kind = true := by
  unfold badB
  have h0 : (o == 0) = false := by
   rw [beq_eq_false_iff_ne]; intro e; subst e
   have : opl 0 = 0 := rfl
   omega
  rw [h0, g1, beq_self_eq_true, Bool.true_and, Bool.not_false, Bool.true_and, Bool.or_eq_true, beq_iff_eq, beq_iff_eq]
  exact g2
 have := l4_dead hN (ms_Shunt_l1 N n) l i (by omega) l[i] os ts o P2 hbad P1 Q t (N - P1.length - 1) hr g3 (by omega)
 rw [show P1.length + (N - P1.length - 1 + 1) = N by omega] at this
 exact this
theorem Yd.fin (hi : l.length ≤ i) {P : List Int} {Q : List STree} {t : STree} {c : Bool} (hr : red P Q = some t) (hc : ms_TreeOk N (lst 0 t) = some c) (hs : szTs Q + P.length ≤ 5000) : Yd N l i P Q (bif c then (lst 0 t, true) else ([], false)) := by
 intro n hn
 obtain ⟨n, rfl⟩ : ∃ m, n = m + 1 := ⟨n - 1, by omega⟩
 rw [ms_Shunt_l1]
 simp only [lt_false (show ¬ i < l.length by omega), cond_false]
 have := l5_flush hN (ms_Shunt_l1 N n) 0 (by omega) c P Q t (N - P.length - 1) hr hc (by omega)
 rw [show P.length + (N - P.length - 1 + 1) = N by omega] at this
 exact this
end

end Go.Proofs.Tryz
