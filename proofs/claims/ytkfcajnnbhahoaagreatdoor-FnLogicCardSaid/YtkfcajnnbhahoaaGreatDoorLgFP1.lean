/-
 Plain lemmas on the models, part 1.
-/
import Derived.Test.YtkfcajnnbhahoaaGreatDoorLgFL1
namespace Go.Proofs.Tryz
open Go.Av
set_option maxRecDepth 100000
set_option linter.unusedSimpArgs false
set_option linter.unusedVariables false

def atB (s : List UInt8) (i : Nat) : Int := match s[i]? with | some b => (b.toNat : Int) | none => -1

theorem byte_lt (b : UInt8) : (b.toNat : Int) < 256 := by have := b.toNat_lt; omega
theorem wrap_byte (b : UInt8) : IntKind.wrap .i64 ((b.toNat : Nat) : Int) = (b.toNat : Int) := by have := byte_lt b; exact wrap64 (by omega) (by omega)

theorem atB_lt {s : List UInt8} {i : Nat} (h : i < s.length) : atB s i = (s[i].toNat : Int) := by
 unfold atB
 rw [List.getElem?_eq_getElem h]
theorem atB_ge {s : List UInt8} {i : Nat} (h : ¬ i < s.length) : atB s i = -1 := by
 unfold atB
 rw [List.getElem?_eq_none (by omega)]
theorem atB_in {s : List UInt8} {i : Nat} (h : atB s i ≠ -1) : i < s.length := by
 cases Nat.lt_or_ge i s.length with
 | inl h => exact h
 | inr h' => exact absurd (atB_ge (by omega)) h

theorem within_is' (a b c : Int) : mi_within a b c = some (decide (a ≥ b) && decide (a ≤ c)) := by
 unfold mi_within
 by_cases h : a ≥ b <;> simp [h]
theorem l1In_is' (a b c : Int) : ms_l1In a b c = some (decide (a ≥ b) && decide (a ≤ c)) := by
 unfold ms_l1In
 by_cases h : a ≥ b <;> simp [h]

theorem byteAt_is (s : List UInt8) (hs : s.length ≤ 1048576) (i : Nat) : mi_byteAt s (i : Int) = some (atB s i) := by
 unfold mi_byteAt
 rw [within_is', wrap64 (by omega) (by omega), oBs, decide_eq_true (by omega : (i : Int) ≥ 0), Bool.true_and]
 by_cases h : i < s.length
 ·rw [decide_eq_true (by omega), Bool.not_true, cond_false, ix_nat h, oBs, atB_lt h, wrap_byte]
 ·rw [decide_eq_false (by omega), Bool.not_false, cond_true, atB_ge h]

theorem l4Byte_is (s : List UInt8) (i : Nat) : ms_l4Byte s (i : Int) = some (atB s i) := by
 unfold ms_l4Byte
 rw [decide_eq_false (by omega : ¬ (i : Int) < 0), cond_false, oBs]
 by_cases h : i < s.length
 ·rw [decide_eq_false (by omega), cond_false, ix_nat h, oBs, atB_lt h, wrap_byte]
 ·rw [decide_eq_true (by omega), cond_true, atB_ge h]

def digB (c : Int) : Bool := decide (c ≥ 48) && decide (c ≤ 57)
theorem dig_spec (c : Int) : ms_IsDigit c = some (digB c) := by
 unfold ms_IsDigit
 rw [l1In_is']
 rfl
theorem dig_impl (c : Int) : mi_IsDigit c = some (digB c) := by
 unfold mi_IsDigit digB
 by_cases h : c ≥ 48 <;> simp [h]
def letB (c : Int) : Bool := (decide (c ≥ 97) && decide (c ≤ 122)) || ((decide (c ≥ 65) && decide (c ≤ 90)) || c == 95)
theorem let_spec (c : Int) : ms_IsLetter c = some (letB c) := by
 unfold ms_IsLetter letB
 rw [l1In_is', l1In_is']
 cases (decide (c ≥ 97) && decide (c ≤ 122)) <;> cases (decide (c ≥ 65) && decide (c ≤ 90)) <;> rfl
theorem let_impl (c : Int) : mi_IsLetter c = some (letB c) := by
 unfold mi_IsLetter letB
 cases decide (c ≥ 97) <;> cases decide (c ≤ 122) <;> cases decide (c ≥ 65) <;> cases decide (c ≤ 90) <;> rfl
def wordB (c : Int) : Bool := letB c || digB c
theorem word_spec (c : Int) : ms_IsWordByte c = some (wordB c) := by
 unfold ms_IsWordByte wordB
 rw [let_spec, dig_spec]
 cases letB c <;> rfl
theorem word_impl (c : Int) : mi_IsWordByte c = some (wordB c) := by
 unfold mi_IsWordByte wordB
 rw [let_impl, dig_impl]
 cases letB c <;> rfl
theorem digB_in {s : List UInt8} {i : Nat} (h : digB (atB s i) = true) : i < s.length := by
 refine atB_in fun e => ?_
 rw [e] at h
 cases h
theorem step_i {s : List UInt8} (hs : s.length ≤ 1048576) {i : Nat} (h : i ≤ s.length + 1) : IntKind.wrap .i64 ((i : Int) + 1) = ((i + 1 : Nat) : Int) := by
 rw [wrap64 (by omega) (by omega)]; omega

theorem dig_ex (N M : Nat) (s : List UInt8) (hs : s.length ≤ 1048576) : ∀ (n m i : Nat), s.length - i < n → s.length - i < m → i ≤ s.length → ∃ r : Nat, ms_l4Digits_l1 N n (s, (i : Int)) = some (r : Int) ∧ mi_digitsEnd_l1 M m (s, (i : Int)) = some (r : Int) ∧ i ≤ r ∧ r ≤ s.length := by
 intro n
 induction n with
 | zero => intro m i h; omega
 | succ n ih =>
  intro m i hn hm hi
  obtain ⟨m, rfl⟩ : ∃ k, m = k + 1 := ⟨m - 1, by omega⟩
  rw [ms_l4Digits_l1, mi_digitsEnd_l1, l4Byte_is, byteAt_is s hs, oBs, oBs, dig_spec, dig_impl, oBs, oBs]
  cases h : digB (atB s i) with
  | false => exact ⟨i, rfl, rfl, Nat.le_refl _, hi⟩
  | true =>
   have := digB_in h
   rw [cond_true, cond_true, step_i hs (by omega)]
   obtain ⟨r, h1, h2, h3, h4⟩ := ih m (i + 1) (by omega) (by omega) (by omega)
   exact ⟨r, h1, h2, by omega, h4⟩

theorem digits_ex (N : Nat) (s : List UInt8) (hs : s.length ≤ 1048576) (hN : s.length < N) (i : Nat) (hi : i ≤ s.length) : ∃ r : Nat, ms_l4Digits N s (i : Int) = some (r : Int) ∧ mi_digitsEnd N s (i : Int) = some (r : Int) ∧ i ≤ r ∧ r ≤ s.length :=
 dig_ex N N s hs N N i (by omega) (by omega) hi

theorem num_k1 (N : Nat) (s : List UInt8) (hs : s.length ≤ 1048576) (hN : s.length < N) (a y : Nat) (z : Int) (hy : y ≤ s.length) (hay : a ≤ y) (hz : (((y : Int) == (a : Int)) = true) ↔ ((z == 0) = true)) :
  ∃ r : Int, ms_NumEnd_k1 N (s, (a : Int), (y : Int)) = some r ∧ mi_NumEnd_k1 N (s, (y : Int), z) = some r ∧ (r = -1 ∨ (a < r ∧ r ≤ s.length)) := by
 simp only [ms_NumEnd_k1, mi_NumEnd_k1]
 cases he : ((y : Int) == (a : Int)) with
 | true =>
  rw [hz.1 he]
  exact ⟨-1, rfl, rfl, .inl rfl⟩
 | false =>
  have hz0 : (z == 0) = false := by
   cases h : (z == 0) with
   | false => rfl
   | true => rw [hz.2 h] at he; cases he
  have hne : ¬ (y : Int) = a := by simpa using he
  have hcond : ((some (atB s y)).bind fun r33 => bif (r33 == 101) then some true else ((some (atB s y)).bind fun r34 => some (r34 == 69))) = some (atB s y == 101 || atB s y == 69) := by
   cases h : (atB s y == 101) <;> simp [h]
  have hcond2 : (bif (atB s y == 101) then some true else some (atB s y == 69)) = some (atB s y == 101 || atB s y == 69) := by
   cases (atB s y == 101) <;> rfl
  rw [hz0, cond_false, cond_false, l4Byte_is, byteAt_is s hs, hcond, oBs, oBs, hcond2, oBs]
  have hdone : ∃ r : Int, ms_NumEnd_k2 N (y : Int) = some r ∧ mi_NumEnd_k2 N (y : Int) = some r ∧ (r = -1 ∨ (a < r ∧ r ≤ s.length)) := ⟨y, rfl, rfl, .inr ⟨by omega, by omega⟩⟩
  cases hE : (atB s y == 101 || atB s y == 69) with
  | false => exact hdone
  | true =>
   have hlt : y < s.length := by
    refine atB_in fun e => ?_
    rw [e] at hE
    cases hE
   have hk3 : ∀ x : Nat, x ≤ s.length → y ≤ x → ∃ r : Int, ms_NumEnd_k3 N (s, (y : Int), (x : Int)) = some r ∧ mi_NumEnd_k3 N (s, (y : Int), (x : Int)) = some r ∧ (r = -1 ∨ (a < r ∧ r ≤ s.length)) := by
    intro x hx hyx
    obtain ⟨r, h1, h2, h3, h4⟩ := digits_ex N s hs hN x hx
    simp only [ms_NumEnd_k3, mi_NumEnd_k3, h1, h2, oBs]
    by_cases hr : (r : Int) > x
    ·rw [decide_eq_true hr]
     exact ⟨r, rfl, rfl, .inr ⟨by omega, by omega⟩⟩
    ·rw [decide_eq_false hr]
     exact hdone
   have hs1 := step_i hs (i := y) (by omega)
   have hs2 := step_i hs (i := y + 1) (by omega)
   have hsg : ((some (atB s (y + 1))).bind fun r48 => bif (r48 == 43) then some true else ((some (atB s (y + 1))).bind fun r49 => some (r49 == 45))) = some (atB s (y + 1) == 43 || atB s (y + 1) == 45) := by
    cases h : (atB s (y + 1) == 43) <;> simp [h]
   have hsg2 : (bif (atB s (y + 1) == 43) then some true else some (atB s (y + 1) == 45)) = some (atB s (y + 1) == 43 || atB s (y + 1) == 45) := by
    cases (atB s (y + 1) == 43) <;> rfl
   simp only [cond_true, hs1, hs2, l4Byte_is, byteAt_is s hs, oBs] at hsg hsg2 ⊢
   simp only [hsg, oBs]
   cases hS : (atB s (y + 1) == 43 || atB s (y + 1) == 45) with
   | true =>
    have : y + 1 < s.length := by
     refine atB_in fun e => ?_
     rw [e] at hS
     cases hS
    exact hk3 (y + 1 + 1) (by omega) (by omega)
   | false => exact hk3 (y + 1) (by omega) (by omega)

theorem num_ex (N : Nat) (s : List UInt8) (hs : s.length ≤ 1048576) (hN : s.length < N) (i : Nat) (hi : i < s.length) :
  ∃ r : Int, ms_NumEnd N s (i : Int) = some r ∧ mi_NumEnd N s (i : Int) = some r ∧ (r = -1 ∨ (i < r ∧ r ≤ s.length)) := by
 unfold ms_NumEnd mi_NumEnd
 obtain ⟨r, h1, h2, h3, h4⟩ := digits_ex N s hs hN i (by omega)
 rw [within_is', wrap64 (n := (s.length : Int) - 1) (by omega) (by omega), decide_eq_false (by omega : ¬ (i : Int) < 0), decide_eq_true (by omega : (i : Int) ≥ 0), decide_eq_true (by omega : (i : Int) ≤ (s.length : Int) - 1), cond_false, oBs, Bool.and_self, Bool.not_true, cond_false, h1, h2, oBs, oBs, l4Byte_is, byteAt_is s hs, oBs, oBs]
 cases hd : (atB s r == 46) with
 | false =>
  rw [cond_false, cond_false, wrap64 (n := (r : Int) - i) (by omega) (by omega)]
  refine num_k1 N s hs hN i r _ h4 h3 ?_
  constructor
  ·intro h; have := eq_of_beq h; rw [this]; simp
  ·intro h; have := eq_of_beq h; exact beq_iff_eq.2 (by omega)
 | true =>
  have hlt : r < s.length := by
   refine atB_in fun e => ?_
   rw [e] at hd
   cases hd
  obtain ⟨q, g1, g2, g3, g4⟩ := digits_ex N s hs hN (r + 1) (by omega)
  rw [cond_true, cond_true, step_i hs (by omega), g1, g2, oBs, oBs, wrap64 (n := (r : Int) - i) (by omega) (by omega), wrap64 (n := (q : Int) - r) (by omega) (by omega), wrap64 (n := (q : Int) - r - 1) (by omega) (by omega), wrap64 (by omega) (by omega)]
  have hnum := num_k1 N s hs hN i q ((r : Int) - i + ((q : Int) - r - 1)) g4 (by omega)
  by_cases he : (r : Int) = i ∧ (q : Int) = ((r + 1 : Nat) : Int)
  ·have e1 : ((r : Int) == (i : Int)) = true := beq_iff_eq.2 he.1
   have e2 : ((q : Int) == ((r + 1 : Nat) : Int)) = true := beq_iff_eq.2 he.2
   have e3 : (((r : Int) - i + ((q : Int) - r - 1)) == 0) = true := beq_iff_eq.2 (by omega)
   simp only [e1, e2, cond_true, oBs, mi_NumEnd_k1, e3]
   exact ⟨-1, rfl, rfl, .inl rfl⟩
  ·have hc : (bif ((r : Int) == (i : Int)) then some ((q : Int) == ((r + 1 : Nat) : Int)) else some false) = some false := by
    cases e1 : ((r : Int) == (i : Int)) with
    | false => rfl
    | true =>
     have e2 : ((q : Int) == ((r + 1 : Nat) : Int)) = false := by
      cases e2 : ((q : Int) == ((r + 1 : Nat) : Int)) with
      | false => rfl
      | true => exact absurd ⟨eq_of_beq e1, eq_of_beq e2⟩ he
     rw [e2]; rfl
   rw [hc, oBs, cond_false]
   refine hnum ?_
   have n1 : ((q : Int) == (i : Int)) = false := by
    cases e : ((q : Int) == (i : Int)) with
    | false => rfl
    | true => have := eq_of_beq e; omega
   have n2 : (((r : Int) - i + ((q : Int) - r - 1)) == 0) = false := by
    cases e : (((r : Int) - i + ((q : Int) - r - 1)) == 0) with
    | false => rfl
    | true => have := eq_of_beq e; exact absurd ⟨by omega, by omega⟩ he
   rw [n1, n2]

theorem quo_l (N M : Nat) (s : List UInt8) (hs : s.length ≤ 1048576) (q : Int) (hq : q ≠ 10) (hq2 : q ≠ 92) : ∀ (n m i : Nat), s.length + 1 - i < n → s.length + 1 - i < m → i ≤ s.length + 1 →
  ∃ r : Int, ms_l4Quoted_l1 N n (s, q, (i : Int)) = some r ∧ mi_quotedEnd_l1 M m (s, q, (i : Int)) = some r ∧ (r = -1 ∨ (i < r ∧ r ≤ s.length)) := by
 intro n
 induction n with
 | zero => intro m i h; omega
 | succ n ih =>
  intro m i hn hm hi
  obtain ⟨m, rfl⟩ : ∃ k, m = k + 1 := ⟨m - 1, by omega⟩
  rw [ms_l4Quoted_l1, mi_quotedEnd_l1]
  by_cases h : i < s.length
  ·simp only [lt_true h, cond_true, ix_nat h, oBs, wrap_byte, step_i hs (by omega : i ≤ s.length + 1)]
   have hge := ih m
   by_cases h10 : (s[i].toNat : Int) = 10
   ·have e1 : ((s[i].toNat : Int) == q) = false := by
     cases e : ((s[i].toNat : Int) == q) with
     | false => rfl
     | true => have := eq_of_beq e; omega
    have e2 : ((s[i].toNat : Int) == 10) = true := beq_iff_eq.2 h10
    have e3 : ((s[i].toNat : Int) != 10) = false := by rw [bne, e2]; rfl
    rw [e1, e2, e3]
    exact ⟨-1, rfl, rfl, .inl rfl⟩
   ·have e2 : ((s[i].toNat : Int) == 10) = false := by
     cases e : ((s[i].toNat : Int) == 10) with
     | false => rfl
     | true => exact absurd (eq_of_beq e) h10
    have e3 : ((s[i].toNat : Int) != 10) = true := by rw [bne, e2]; rfl
    rw [e2, e3]
    simp only [cond_true, cond_false]
    cases e1 : ((s[i].toNat : Int) == q) with
    | true => exact ⟨((i + 1 : Nat) : Int), rfl, rfl, .inr ⟨by omega, by omega⟩⟩
    | false =>
     simp only [cond_false]
     cases e4 : ((s[i].toNat : Int) == 92) with
     | false =>
      simp only [cond_false, oBs, ms_l4Quoted_k2, mi_quotedEnd_k2, step_i hs (by omega : i ≤ s.length + 1)]
      obtain ⟨r, h1, h2, h3⟩ := hge (i + 1) (by omega) (by omega) (by omega)
      exact ⟨r, h1, h2, h3.imp id fun h => ⟨by omega, h.2⟩⟩
     | true =>
      rw [cond_true, cond_true, l4Byte_is, byteAt_is s hs, oBs, oBs, oBs]
      cases e5 : (atB s (i + 1) == 10) with
      | true =>
       have e6 : (atB s (i + 1) != 10) = false := by rw [bne, e5]; rfl
       have hlt : i + 1 < s.length := by
        refine atB_in fun e => ?_
        rw [e] at e5
        cases e5
       have h10' : ((s[i + 1].toNat : Int) != 10) = false := by
        rw [atB_lt hlt] at e6; exact e6
       rw [e6]
       obtain ⟨m, rfl⟩ : ∃ k, m = k + 1 := ⟨m - 1, by omega⟩
       simp only [cond_true, cond_false, mi_quotedEnd_k2, step_i hs (by omega : i ≤ s.length + 1)]
       rw [mi_quotedEnd_l1]
       simp only [lt_true hlt, cond_true, ix_nat hlt, oBs, h10', cond_false]
       exact ⟨-1, rfl, rfl, .inl rfl⟩
      | false =>
       have e6 : (atB s (i + 1) != 10) = true := by rw [bne, e5]; rfl
       rw [e6]
       simp only [cond_true, cond_false, ms_l4Quoted_k2, mi_quotedEnd_k2, step_i hs (by omega : i + 1 ≤ s.length + 1)]
       obtain ⟨r, h1, h2, h3⟩ := hge (i + 1 + 1) (by omega) (by omega) (by omega)
       exact ⟨r, h1, h2, h3.imp id fun h => ⟨by omega, h.2⟩⟩
  ·simp only [lt_false h, cond_false, oBs]
   exact ⟨-1, rfl, rfl, .inl rfl⟩

theorem quo_ex (N : Nat) (s : List UInt8) (hs : s.length ≤ 1048576) (hN : s.length + 2 < N) (q : Int) (hq : q ≠ 10) (hq2 : q ≠ 92) (i : Nat) (hi : i < s.length) :
  ∃ r : Int, ms_l4Quoted N s (i : Int) q = some r ∧ mi_quotedEnd N s (i : Int) q = some r ∧ (r = -1 ∨ (i < r ∧ r ≤ s.length)) := by
 unfold ms_l4Quoted mi_quotedEnd
 rw [l4Byte_is, byteAt_is s hs, oBs, oBs, step_i hs (by omega)]
 cases (atB s i != q) with
 | true => exact ⟨-1, rfl, rfl, .inl rfl⟩
 | false =>
  obtain ⟨r, h1, h2, h3⟩ := quo_l N N s hs q hq hq2 N N (i + 1) (by omega) (by omega) (by omega)
  exact ⟨r, h1, h2, h3.imp id fun h => ⟨by omega, h.2⟩⟩

theorem str_ex (N : Nat) (s : List UInt8) (hs : s.length ≤ 1048576) (hN : s.length + 2 < N) (i : Nat) (hi : i < s.length) :
  ∃ r : Int, ms_StrEnd N s (i : Int) = some r ∧ mi_StrEnd N s (i : Int) = some r ∧ (r = -1 ∨ (i < r ∧ r ≤ s.length)) := by
 obtain ⟨r, h1, h2, h3⟩ := quo_ex N s hs hN 34 (by decide) (by decide) i hi
 unfold ms_StrEnd mi_StrEnd
 rw [h1, h2]
 exact ⟨r, rfl, rfl, h3⟩

theorem ere_ex (N : Nat) (s : List UInt8) (hs : s.length ≤ 1048576) (hN : s.length + 2 < N) (i : Nat) (hi : i < s.length) :
  ∃ r : Int, ms_EreEnd N s (i : Int) = some r ∧ mi_EreEnd N s (i : Int) = some r ∧ (r = -1 ∨ (i < r ∧ r ≤ s.length)) := by
 obtain ⟨r, h1, h2, h3⟩ := quo_ex N s hs hN 47 (by decide) (by decide) i hi
 unfold ms_EreEnd mi_EreEnd
 simp only [h1, h2, oBs]
 cases (r == IntKind.wrap .i64 ((i : Int) + 2)) with
 | true => exact ⟨-1, rfl, rfl, .inl rfl⟩
 | false => exact ⟨r, rfl, rfl, h3⟩

theorem shape_l (N M : Nat) (s : List UInt8) (hs : s.length ≤ 1048576) : ∀ (n m i : Nat), s.length - i < n → s.length - i < m → i ≤ s.length → ∃ b : Bool, ms_NameShape_l1 N n (s, (i : Int)) = some b ∧ mi_NameShape_l1 M m (s, (i : Int)) = some b := by
 intro n
 induction n with
 | zero => intro m i h; omega
 | succ n ih =>
  intro m i hn hm hi
  obtain ⟨m, rfl⟩ : ∃ k, m = k + 1 := ⟨m - 1, by omega⟩
  rw [ms_NameShape_l1, mi_NameShape_l1]
  by_cases h : i < s.length
  ·simp only [lt_true h, cond_true, ix_nat h, oBs, word_spec, word_impl, step_i hs (by omega : i ≤ s.length + 1)]
   cases wordB (IntKind.wrap .i64 ((s[i].toNat : Nat) : Int)) with
   | false => exact ⟨false, rfl, rfl⟩
   | true => exact ih m (i + 1) (by omega) (by omega) (by omega)
  ·simp only [lt_false h, cond_false, l1In_is', within_is', oBs]
   cases hc : (decide ((s.length : Int) ≥ 1) && decide ((s.length : Int) ≤ 12)) with
   | false => exact ⟨false, rfl, rfl⟩
   | true =>
    have h0 : 0 < s.length := by
     simp only [Bool.and_eq_true, decide_eq_true_eq] at hc
     omega
    have e : ix s 0 = some s[0] := ix_nat h0
    simp only [cond_true, e, oBs, let_spec, let_impl]
    exact ⟨_, rfl, rfl⟩

theorem shape_ex (N : Nat) (s : List UInt8) (hs : s.length ≤ 1048576) (hN : s.length < N) : ∃ b : Bool, ms_NameShape N s = some b ∧ mi_NameShape N s = some b :=
 shape_l N N s hs N N 0 (by omega) (by omega) (by omega)

theorem words_is : ms_l3Words = some tab_keywords := rfl
theorem builtins_is : ms_l3Builtins = some tab_builtins := rfl
theorem signs_is : ms_l3Signs = some tab_signs := rfl

theorem find_l (N M : Nat) (l : List (List UInt8)) (x : List UInt8) (hl : l.length ≤ 1048576) : ∀ (n m i : Nat), l.length - i < n → l.length - i < m → i ≤ l.length →
  ∃ r : Int, ms_l3Find_l1 N n (l, x, (i : Int)) = some r ∧ m_slices_Index_string_l1 M m (l, x, (i : Int)) = some r ∧ (-1 ≤ r ∧ (0 ≤ r → x ∈ l)) ∧ r < l.length := by
 intro n
 induction n with
 | zero => intro m i h; omega
 | succ n ih =>
  intro m i hn hm hi
  obtain ⟨m, rfl⟩ : ∃ k, m = k + 1 := ⟨m - 1, by omega⟩
  rw [ms_l3Find_l1, m_slices_Index_string_l1]
  by_cases h : i < l.length
  ·have hst : IntKind.wrap .i64 ((i : Int) + 1) = ((i + 1 : Nat) : Int) := step64 h (by simp only [maxLen]; omega)
   have hc : (x == l[i]) = (l[i] == x) := by
    cases e : (l[i] == x) with
    | true => have := eq_of_beq e; subst this; simp
    | false =>
     have : ¬ l[i] = x := by simpa using e
     simpa using fun e => this e.symm
   simp only [lt_true h, cond_true, ix_nat h, oBs, hst, hc]
   cases he : (l[i] == x) with
   | true => exact ⟨(i : Int), rfl, rfl, ⟨by omega, fun _ => by have := eq_of_beq he; rw [← this]; exact List.getElem_mem h⟩, by omega⟩
   | false => exact ih m (i + 1) (by omega) (by omega) (by omega)
  ·simp only [lt_false h, cond_false]
   exact ⟨-1, rfl, rfl, ⟨by omega, fun h => by omega⟩, by omega⟩

theorem find_ex (N : Nat) (l : List (List UInt8)) (x : List UInt8) (hl : l.length ≤ 1048576) (hN : l.length < N) : ∃ r : Int, ms_l3Find N l x = some r ∧ m_slices_Index_string N l x = some r ∧ (-1 ≤ r ∧ (0 ≤ r → x ∈ l)) ∧ r < l.length :=
 find_l N N l x hl N N 0 (by omega) (by omega) (by omega)

theorem kw_ex (N : Nat) (x : List UInt8) (hN : 100 < N) : ∃ r : Int, ms_KeywordOf N x = some r ∧ mi_KeywordOf N x = some r ∧ (r = 0 ∨ (10 ≤ r ∧ r ≤ 26)) := by
 obtain ⟨r, h1, h2, h3, h4⟩ := find_ex N tab_keywords x (by decide) (by have : tab_keywords.length = 17 := rfl; omega)
 have hl : tab_keywords.length = 17 := rfl
 unfold ms_KeywordOf mi_KeywordOf
 rw [words_is, oBs, h1, h2]
 simp only [oBs]
 by_cases h : r < 0
 ·rw [decide_eq_true h]
  exact ⟨0, rfl, rfl, .inl rfl⟩
 ·rw [decide_eq_false h, wrap64 (n := 10 + r) (by omega) (by omega)]
  exact ⟨10 + r, rfl, rfl, .inr (by omega)⟩

theorem bi_ex (N : Nat) (x : List UInt8) (hN : 100 < N) : ∃ b : Bool, ms_IsBuiltin N x = some b ∧ mi_IsBuiltin N x = some b ∧ (b = true → x ∈ tab_builtins) := by
 obtain ⟨r, h1, h2, h3, h4⟩ := find_ex N tab_builtins x (by decide) (by have : tab_builtins.length = 21 := rfl; omega)
 unfold ms_IsBuiltin mi_IsBuiltin m_slices_Contains_string
 rw [builtins_is, oBs, h1, h2]
 exact ⟨_, rfl, rfl, fun h => h3.2 (by simpa using h)⟩


theorem b10' (b : UInt8) : (((b).toNat : Int) == 10) = (b == 10) := by
 cases h : (b == 10) with
 | true => have := eq_of_beq h; subst this; rfl
 | false =>
  have hne : b ≠ 10 := by simpa using h
  have : ¬ b.toNat = 10 := fun e => hne (UInt8.toNat.inj e)
  simp; omega

theorem plain4_l (N : Nat) (t : List UInt8) (ht : t.length ≤ maxLen) : ∀ (n i : Nat), t.length - i < n → i ≤ t.length → ms_l4Plain_l1 N n (t, (i : Int)) = some (!(t.drop i).contains 10) := by
 intro n
 induction n with
 | zero => intro i h; omega
 | succ n ih =>
  intro i hn hi
  rw [ms_l4Plain_l1]
  by_cases h : i < t.length
  ·simp only [lt_true h, cond_true, ix_nat h, oBs, b10', step64 h ht]
   rw [ih (i + 1) (by omega) (by omega), drop_cons h, List.contains_cons]
   by_cases he : t[i] = 10
   ·simp [he]
   ·have h1 : (t[i] == 10) = false := by simpa using he
    have h2 : ((10 : UInt8) == t[i]) = false := by simpa using fun e => he e.symm
    rw [h1, h2, cond_false, Bool.false_or]
  ·simp only [lt_false h, cond_false]
   rw [drop_nil h]
   rfl

theorem plain4_is (N : Nat) (t : List UInt8) (hN : t.length < N) (ht : t.length ≤ maxLen) : ms_l4Plain N t = some (!t.contains 10) := by
 unfold ms_l4Plain
 have := plain4_l N t ht N 0 (by omega) (by omega)
 simpa using this

theorem indexByte_mem (l : List UInt8) (c : UInt8) : decide (Go.Lib.indexByte l c ≥ 0) = l.contains c := by
 induction l with
 | nil => rfl
 | cons b l ih =>
  rw [List.contains_cons]
  unfold Go.Lib.indexByte
  by_cases h : (b == c) = true
  ·have : (c == b) = true := by have := eq_of_beq h; subst this; simp
   simp [h, this]
  ·have hf : (b == c) = false := by simpa using h
   have hf2 : (c == b) = false := by
    have : ¬ b = c := by simpa using hf
    simpa using fun e => this e.symm
   rw [hf, hf2, Bool.false_or, ← ih]
   have hge := Go.Lib.indexByte_ge l c
   simp only [Bool.false_eq_true, if_false]
   split
   ·rename_i he
    have : Go.Lib.indexByte l c = -1 := by simpa using he
    rw [this]
   ·rename_i he
    have : ¬ Go.Lib.indexByte l c = -1 := by simpa using he
    have h1 : Go.Lib.indexByte l c ≥ 0 := by omega
    have h2 : Go.Lib.indexByte l c + 1 ≥ 0 := by omega
    simp [h1, h2]

theorem contains_is (t : List UInt8) : m_strings_Contains t = some (t.contains 10) := by
 have h0 : m_stringslite_Index t = some (Go.Lib.indexByte t 10) := by
  unfold m_stringslite_Index
  by_cases h : (([10] : List UInt8) == t) = true
  ·have := eq_of_beq h
   subst this
   rfl
  ·have hf : (([10] : List UInt8) == t) = false := by simpa using h
   rw [hf, cond_false]
   rfl
 unfold m_strings_Contains m_strings_Index
 rw [h0, oBs, oBs, indexByte_mem]


theorem spell_ex (k : Int) : ∃ x : List UInt8, ms_SpellOf k = some x ∧ mi_SpellOf k = some x ∧ (k = 0 → x = []) := by
 have hkw : mi_isKeywordKind k = some (decide (k ≥ 10) && decide (k ≤ 26)) := by
  unfold mi_isKeywordKind
  rw [within_is']
  rfl
 have hsg : mi_isSignKind k = some (decide (k ≥ 30) && decide (k ≤ 68)) := by
  unfold mi_isSignKind
  rw [within_is']
  rfl
 unfold ms_SpellOf mi_SpellOf
 rw [l1In_is', l1In_is', hkw, hsg, words_is, signs_is]
 simp only [oBs]
 cases h1 : (k == 1) with
 | true => exact ⟨[10], rfl, rfl, fun h => by subst h; cases h1⟩
 | false =>
  cases h2 : (decide (k ≥ 10) && decide (k ≤ 26)) with
  | true =>
   simp only [Bool.and_eq_true, decide_eq_true_eq] at h2
   obtain ⟨j, rfl⟩ : ∃ j : Nat, k = (j : Int) + 10 := ⟨(k - 10).toNat, by omega⟩
   have hl : tab_keywords.length = 17 := rfl
   have hw : IntKind.wrap .i64 ((j : Int) + 10 - 10) = (j : Int) := by rw [wrap64 (by omega) (by omega)]; omega
   rw [cond_false, cond_true, hw, ix_nat (by omega)]
   exact ⟨_, rfl, rfl, fun h => by omega⟩
  | false =>
   cases h3 : (decide (k ≥ 30) && decide (k ≤ 68)) with
   | true =>
    simp only [Bool.and_eq_true, decide_eq_true_eq] at h3
    obtain ⟨j, rfl⟩ : ∃ j : Nat, k = (j : Int) + 30 := ⟨(k - 30).toNat, by omega⟩
    have hl : tab_signs.length = 39 := rfl
    have hw : IntKind.wrap .i64 ((j : Int) + 30 - 30) = (j : Int) := by rw [wrap64 (by omega) (by omega)]; omega
    rw [cond_false, cond_false, cond_true, hw, ix_nat (by omega)]
    exact ⟨_, rfl, rfl, fun h => by omega⟩
   | false => exact ⟨[], rfl, rfl, fun _ => rfl⟩

theorem nameok_ex (N : Nat) (x : List UInt8) (hx : x.length ≤ 1048576) (hN : x.length + 200 < N) : ∃ b : Bool, ms_NameOk N x = some b ∧ mi_NameOk N x = some b ∧ (x = [] → b = false) := by
 unfold ms_NameOk mi_NameOk
 obtain ⟨q, h1, h2⟩ := shape_ex N x hx (by omega)
 obtain ⟨r, g1, g2, _⟩ := kw_ex N x (by omega)
 obtain ⟨c, f1, f2, _⟩ := bi_ex N x (by omega)
 have hq : x = [] → q = false := by
  intro e
  subst e
  unfold ms_NameShape at h1
  obtain ⟨M, rfl⟩ : ∃ m, N = m + 1 := ⟨N - 1, by omega⟩
  rw [ms_NameShape_l1] at h1
  have e1 : decide ((0 : Int) < (([] : List UInt8).length : Int)) = false := rfl
  have e2 : ms_l1In (([] : List UInt8).length : Int) 1 12 = some false := rfl
  rw [e1, cond_false, e2] at h1
  simpa using h1.symm
 rw [h1, h2, oBs, oBs]
 cases hqv : q with
 | false => exact ⟨false, rfl, rfl, fun _ => rfl⟩
 | true =>
  rw [cond_true, cond_true, g1, g2, oBs, oBs]
  cases (r == 0) with
  | false => exact ⟨false, rfl, rfl, fun _ => rfl⟩
  | true =>
   rw [cond_true, cond_true, f1, f2]
   exact ⟨!c, rfl, rfl, fun e => by rw [hq e] at hqv; cases hqv⟩

theorem beq_nil (x : List UInt8) : (x == []) = true ↔ x = [] := by simp

theorem tokok_ex (N : Nat) (t : SToken) (ht : t.Text.length ≤ 1048576) (hN : t.Text.length + 200 < N) : ∃ b : Bool, ms_TokenOk N t = some b ∧ mi_TokenOk N t = some b ∧ (t.Kind = 0 → b = false) := by
 obtain ⟨sp, s1, s2, s3⟩ := spell_ex t.Kind
 obtain ⟨nb, n1, n2, n3⟩ := nameok_ex N t.Text ht hN
 obtain ⟨bb, b1, b2, b3⟩ := bi_ex N t.Text (by omega)
 -- the tail, whatever kind
 have hk1 : ∀ y : Bool, ¬ t.Text = [] → ∃ b : Bool, ms_TokenOk_k1 N (t, y) = some b ∧ mi_TokenOk_k1 N (t, y) = some b ∧ (t.Kind = 0 → y = false → b = false) := by
  intro y hne
  have hbn : (t.Text == []) = false := by
   cases e : (t.Text == []) with
   | false => rfl
   | true => exact absurd ((beq_nil _).1 e) hne
  simp only [ms_TokenOk_k1, mi_TokenOk_k1]
  rw [n1, n2, b1, b2, s1, s2, hbn]
  cases y with
  | true => exact ⟨nb, rfl, rfl, fun _ h => by cases h⟩
  | false =>
   cases h8 : (t.Kind == 8) with
   | true =>
    refine ⟨bb, rfl, rfl, fun h => ?_⟩
    rw [h] at h8
    cases h8
   | false =>
    have hc : (sp == t.Text) = (t.Text == sp) := by
     cases e : (t.Text == sp) with
     | true => have := eq_of_beq e; rw [this]; simp
     | false =>
      have : ¬ t.Text = sp := by simpa using e
      simpa using fun e => this e.symm
    refine ⟨t.Text == sp, by rw [← hc]; rfl, rfl, fun h _ => ?_⟩
    rw [s3 h]
    exact hbn
 unfold ms_TokenOk mi_TokenOk
 by_cases hne : t.Text = []
 ·have e0 : (t.Text == []) = true := (beq_nil _).2 hne
  rw [e0, cond_true]
  refine ⟨false, ?_, rfl, fun _ => rfl⟩
  have hl : decide ((t.Text.length : Int) > 0) = false := by rw [hne]; rfl
  have hst : ms_StrEnd N t.Text 0 = some (-1) := by
   rw [hne]
   rfl
  have hre : ms_EreEnd N t.Text 0 = some (-1) := by
   rw [hne]
   rfl
  have hm1 : ((-1 : Int) == (t.Text.length : Int)) = false := by rw [hne]; rfl
  rw [hl, hst, hre]
  have hk : ∀ y, ms_TokenOk_k1 N (t, y) = some false := by
   intro y
   simp only [ms_TokenOk_k1]
   rw [n1, n3 hne, b1, s1, e0]
   have hbb : bb = false := by
    cases h : bb with
    | false => rfl
    | true =>
     have := b3 h
     rw [hne] at this
     exact absurd this (by decide)
   rw [hbb]
   cases y <;> cases (t.Kind == 8) <;> rfl
  simp only [oBs, cond_false, hm1, hk]
  cases (t.Kind == 2) <;> cases (t.Kind == 3) <;> cases (t.Kind == 4) <;> cases (t.Kind == 5) <;> cases (t.Kind == 6) <;> rfl
 ·have e0 : (t.Text == []) = false := by
   cases e : (t.Text == []) with
   | false => rfl
   | true => exact absurd ((beq_nil _).1 e) hne
  have hpos : 0 < t.Text.length := by
   cases Nat.eq_zero_or_pos t.Text.length with
   | inl h => exact absurd (List.length_eq_zero_iff.1 h) hne
   | inr h => exact h
  have hl : decide ((t.Text.length : Int) > 0) = true := decide_eq_true (by omega)
  rw [e0, cond_false, hl]
  simp only [cond_true]
  cases h2 : (t.Kind == 2) with
  | true =>
   have e : ix t.Text 0 = some t.Text[0] := ix_nat hpos
   have hp := plain4_is N t.Text (by omega) (by simp only [maxLen]; omega)
   have hc := contains_is t.Text
   rw [cond_true, cond_true, e, hp, hc]
   simp only [oBs]
   refine ⟨((t.Text[0].toNat : Int) == 35) && !t.Text.contains 10, ?_, ?_, fun h => ?_⟩
   ·cases ((t.Text[0].toNat : Int) == 35) <;> rfl
   ·cases ((t.Text[0].toNat : Int) == 35) <;> rfl
   ·rw [h] at h2
    cases h2
  | false =>
   rw [cond_false, cond_false]
   cases h3 : (t.Kind == 3) with
   | true =>
    obtain ⟨r, f1, f2, _⟩ := num_ex N t.Text ht (by omega) 0 hpos
    have f1' : ms_NumEnd N t.Text 0 = some r := f1
    have f2' : mi_NumEnd N t.Text 0 = some r := f2
    rw [cond_true, cond_true, f1', f2']
    refine ⟨_, rfl, rfl, fun h => ?_⟩
    rw [h] at h3
    cases h3
   | false =>
    rw [cond_false, cond_false]
    cases h4 : (t.Kind == 4) with
    | true =>
     obtain ⟨r, f1, f2, _⟩ := str_ex N t.Text ht (by omega) 0 hpos
     have f1' : ms_StrEnd N t.Text 0 = some r := f1
     have f2' : mi_StrEnd N t.Text 0 = some r := f2
     rw [cond_true, cond_true, f1', f2']
     refine ⟨_, rfl, rfl, fun h => ?_⟩
     rw [h] at h4
     cases h4
    | false =>
     rw [cond_false, cond_false]
     cases h5 : (t.Kind == 5) with
     | true =>
      obtain ⟨r, f1, f2, _⟩ := ere_ex N t.Text ht (by omega) 0 hpos
      have f1' : ms_EreEnd N t.Text 0 = some r := f1
      have f2' : mi_EreEnd N t.Text 0 = some r := f2
      rw [cond_true, cond_true, f1', f2']
      refine ⟨_, rfl, rfl, fun h => ?_⟩
      rw [h] at h5
      cases h5
     | false =>
      rw [cond_false, cond_false]
      cases h6 : (t.Kind == 6) with
      | true =>
       obtain ⟨b, k1, k2, k3⟩ := hk1 true hne
       refine ⟨b, k1, k2, fun h => ?_⟩
       rw [h] at h6
       cases h6
      | false =>
       obtain ⟨b, k1, k2, k3⟩ := hk1 (t.Kind == 7) hne
       refine ⟨b, k1, k2, fun h => k3 h ?_⟩
       rw [h]
       rfl

def kidsN (a : List SNode) : List (List Int) := a.map (·.Kids)

theorem kidsN_get {a : List SNode} {i : Nat} (h : i < a.length) : (kidsN a).drop i = a[i].Kids :: (kidsN a).drop (i + 1) := by
 have h' : i < (kidsN a).length := by simpa [kidsN] using h
 rw [drop_cons h']
 simp [kidsN]

theorem specStarts_l2 (N : Nat) (kb : (List SNode × Int × List Int) → Option (List Int × Bool)) (a : List SNode) (i : Nat) (hi : i < a.length) (hi2 : i ≤ 100000) (out : List Int) (ho : out.length = i) (hl : Low out) (hk : a[i].Kids.length ≤ 1048576) :
  ∀ (n j : Nat) (at_ : Int), j < n → j ≤ a[i].Kids.length → 0 ≤ at_ → at_ ≤ i →
   ms_l6Starts_l2 N kb n (a, (i : Int), out, at_, (j : Int) - 1) = match walk out at_ (a[i].Kids.take j).reverse with
    | none => some ([], false)
    | some s => kb (a, ((i + 1 : Nat) : Int), out ++ [s]) := by
 intro n
 induction n with
 | zero => intro j at_ h; omega
 | succ n ih =>
  intro j at_ hn hj h0 h1
  rw [ms_l6Starts_l2]
  cases j with
  | zero =>
   have : decide (((0 : Nat) : Int) - 1 ≥ 0) = false := by simp
   simp only [this, cond_false, List.take_zero, List.reverse_nil, walk]
   rw [app_some (by simp [ho]; omega), oBs, wrap64 (by omega) (by omega)]
   rfl
  | succ j =>
   have hjk : j < a[i].Kids.length := by omega
   rw [take_rev hjk]
   simp only [nat_ge, cond_true, pred_nat, ix_nat hi, ix_nat hjk, oBs]
   rw [wrap64 (n := at_ - 1) (by omega) (by omega)]
   unfold walk
   by_cases hc : a[i].Kids[j] ≠ at_ - 1
   ·have h2 : (a[i].Kids[j] != at_ - 1) = true := by simpa using hc
    rw [h2, cond_true, oBs, cond_true, if_pos (.inr hc)]
   ·have h2 : (a[i].Kids[j] != at_ - 1) = false := by simpa using hc
    rw [h2, cond_false, oBs]
    by_cases hz : at_ = 0
    ·have h3 : (at_ == 0) = true := by simpa using hz
     rw [h3, cond_true, if_pos (.inl hz)]
    ·have h3 : (at_ == 0) = false := by simpa using hz
     rw [h3, cond_false, if_neg (fun h => h.elim hz hc)]
     have hlt : (at_ - 1).toNat < out.length := by omega
     have hx : ix out (at_ - 1) = some out[(at_ - 1).toNat] := by
      have := ix_nat hlt
      rwa [Int.toNat_of_nonneg (by omega)] at this
     rw [hx, oBs, List.getElem?_eq_getElem hlt]
     have hlow := hl _ _ (List.getElem?_eq_getElem hlt)
     rw [wrap64 (by omega) (by omega)]
     exact ih j _ (by omega) (by omega) hlow.1 (by omega)

theorem specStarts_l1 (N : Nat) (a : List SNode) (hN : 1048577 < N) (ha : a.length ≤ 100000) (hk : ∀ x, x ∈ a → x.Kids.length ≤ 1048576) : ∀ (n i : Nat) (out : List Int), a.length - i < n → i ≤ a.length → out.length = i → Low out →
  ms_l6Starts_l1 N n (a, (i : Int), out) = match starts ((kidsN a).drop i) out with
   | none => some ([], false)
   | some r => some (r, true) := by
 intro n
 induction n with
 | zero => intro i out h; omega
 | succ n ih =>
  intro i out hn hi ho hl
  rw [ms_l6Starts_l1]
  by_cases h : i < a.length
  ·have hkl := hk _ (List.getElem_mem h)
   simp only [lt_true h, cond_true, ix_nat h, oBs]
   rw [wrap64 (n := (a[i].Kids.length : Int) - 1) (by omega) (by omega), specStarts_l2 N _ a i h (by omega) out ho hl hkl N _ _ (by omega) (Nat.le_refl _) (by omega) (by omega), List.take_length, kidsN_get h, starts, ho]
   cases hw : walk out (i : Int) a[i].Kids.reverse with
   | none => rfl
   | some s =>
    have hs := walk_le hl _ (by omega) hw
    simp only [oBs]
    exact ih (i + 1) _ (by omega) (by omega) (by simp [ho]) (hl.snoc hs.1 (by omega))
  ·simp only [lt_false h, cond_false]
   have : (kidsN a).drop i = [] := drop_nil (by simpa [kidsN] using h)
   rw [this]
   rfl


theorem implStarts_r2 (N : Nat) (kb : (List SNode × Int × List Int) → Option (List Int × Bool)) (a : List SNode) (e : SNode) (i : Nat) (hi : i < a.length) (hi2 : i ≤ 100000) (out st : List Int) (ho : out.length = i) (hst : st.take i = out) (hsl : st.length = a.length) (hl : Low out) :
  ∀ (ks : List Int) (at_ : Int), 0 ≤ at_ → at_ ≤ i →
   mi_startsOf_r2 N kb a (i : Int) e st ks (at_ - 1) = match walk out at_ ks with
    | none => some ([], false)
    | some s => kb (a, ((i + 1 : Nat) : Int), st.set i s) := by
 intro ks
 have hil : i < st.length := by omega
 induction ks with
 | nil =>
  intro at_ h0 h1
  rw [mi_startsOf_r2]
  simp only [walk]
  rw [ix_nat hil, oBs, wrap64 (n := at_ - 1 + 1) (by omega) (by omega), upd_nat hil, oBs, wrap64 (by omega) (by omega), Int.sub_add_cancel]
  rfl
 | cons k ks ih =>
  intro at_ h0 h1
  rw [mi_startsOf_r2]
  unfold walk
  by_cases hz : at_ = 0
  ·have h3 : decide (at_ - 1 < 0) = true := by simp; omega
   rw [h3, cond_true, oBs, cond_true, if_pos (.inl hz)]
  ·have h3 : decide (at_ - 1 < 0) = false := by simp; omega
   rw [h3, cond_false, oBs]
   by_cases hc : k ≠ at_ - 1
   ·have h2 : (k != at_ - 1) = true := by simpa using hc
    rw [h2, cond_true, if_pos (.inr hc)]
   ·have h2 : (k != at_ - 1) = false := by simpa using hc
    have hk : k = at_ - 1 := Decidable.of_not_not hc
    rw [h2, cond_false, if_neg (fun h => h.elim hz hc)]
    have hlt : (at_ - 1).toNat < out.length := by omega
    have hlt2 : (at_ - 1).toNat < st.length := by omega
    have hx : ix st k = some st[(at_ - 1).toNat] := by
     have := ix_nat hlt2
     rw [Int.toNat_of_nonneg (by omega)] at this
     rw [hk]; exact this
    have he : out[(at_ - 1).toNat]? = some st[(at_ - 1).toNat] := by
     rw [← hst, List.getElem?_take, if_pos (by omega), List.getElem?_eq_getElem hlt2]
    rw [hx, oBs, he]
    have hlow := hl _ _ he
    rw [wrap64 (n := st[(at_ - 1).toNat] - 1) (by omega) (by omega)]
    exact ih _ hlow.1 (by omega)

def rootAt (r : List Int) (n : Nat) : Bool := r[n - 1]? == some 0

theorem implStarts_l1 (N : Nat) (a : List SNode) (ha : a.length ≤ 100000) (h1 : 1 ≤ a.length) : ∀ (n i : Nat) (out st : List Int), a.length - i < n → i ≤ a.length → out.length = i → st.take i = out → st.length = a.length → Low out →
  ∃ st', mi_startsOf_l1 N n (a, (i : Int), st) = some (st', match starts ((kidsN a).drop i) out with
   | none => false
   | some r => rootAt r a.length) ∧ ∀ r, starts ((kidsN a).drop i) out = some r → st' = r := by
 intro n
 induction n with
 | zero => intro i out st h; omega
 | succ n ih =>
  intro i out st hn hi ho hst hsl hl
  rw [mi_startsOf_l1]
  by_cases h : i < a.length
  ·simp only [lt_true h, cond_true, ix_nat h, oBs]
   rw [wrap64 (n := (i : Int) - 1) (by omega) (by omega), implStarts_r2 N _ a a[i] i h (by omega) out st ho hst hsl hl _ _ (by omega) (by omega), kidsN_get h, starts, ho]
   cases hw : walk out (i : Int) a[i].Kids.reverse with
   | none => exact ⟨[], rfl, fun r h => by cases h⟩
   | some s =>
    have hs := walk_le hl _ (by omega) hw
    simp only [oBs]
    refine ih (i + 1) _ _ (by omega) (by omega) (by simp [ho]) ?_ (by simpa using hsl) (hl.snoc hs.1 (by omega))
    rw [List.take_add_one, List.take_set_of_le (Nat.le_refl i), hst, List.getElem?_set_self (by omega)]
    rfl
  ·simp only [lt_false h, cond_false]
   have : (kidsN a).drop i = [] := drop_nil (by simpa [kidsN] using h)
   rw [this]
   have hia : i = a.length := by omega
   have hso : st = out := by rw [← hst, List.take_of_length_le (by omega)]
   have hlt : a.length - 1 < st.length := by omega
   have hx : ix st ((a.length : Int) - 1) = some st[a.length - 1] := by
    have := ix_nat hlt
    rwa [show ((a.length - 1 : Nat) : Int) = (a.length : Int) - 1 by omega] at this
   rw [wrap64 (n := (a.length : Int) - 1) (by omega) (by omega), hx, oBs]
   refine ⟨st, ?_, fun r hr => by rw [hso]; exact Option.some.inj hr⟩
   simp only [starts, rootAt, ← hso, List.getElem?_eq_getElem hlt]
   congr 2

def shapeB (a : List SNode) : Bool :=
 (decide (1 ≤ a.length) && decide (a.length ≤ 400)) && (match starts (kidsN a) [] with
  | none => false
  | some r => rootAt r a.length)

theorem within_is (a b c : Int) : mi_within a b c = some (decide (a ≥ b) && decide (a ≤ c)) := by
 unfold mi_within
 cases decide (a ≥ b) <;> rfl

theorem l1In_is (a b c : Int) : ms_l1In a b c = some (decide (a ≥ b) && decide (a ≤ c)) := by
 unfold ms_l1In
 cases decide (a ≥ b) <;> rfl

theorem smKids {a : List SNode} (hs : ∀ x, x ∈ a → smNode x) : ∀ x, x ∈ a → x.Kids.length ≤ 1048576 := fun x hx => by
 have := hs x hx; unfold smNode at this; omega

theorem specStarts_is (N : Nat) (a : List SNode) (hN : 1048577 < N) (ha : a.length ≤ 400) (hs : ∀ x, x ∈ a → smNode x) : ms_l6Starts N a = match starts (kidsN a) [] with
  | none => some ([], false)
  | some r => some (r, true) := by
 have := specStarts_l1 N a hN (by omega) (smKids hs) N 0 [] (by omega) (by omega) rfl (fun j s h => by simp at h)
 rw [List.drop_zero] at this
 exact this

theorem shapeOk_spec (N : Nat) (a : List SNode) (hN : 1048577 < N) (hs : ∀ x, x ∈ a → smNode x) : ms_ShapeOk N a = some (shapeB a) := by
 unfold ms_ShapeOk shapeB
 rw [l1In_is, oBs]
 by_cases h1 : 1 ≤ a.length
 ·by_cases h2 : a.length ≤ 400
  ·have e1 : decide ((a.length : Int) ≥ 1) = true := by simp; omega
   have e2 : decide ((a.length : Int) ≤ 400) = true := by simp; omega
   simp only [e1, e2, Bool.and_self, Bool.not_true, cond_false, h1, h2, decide_true, Bool.true_and, specStarts_is N a hN h2 hs]
   cases hst : starts (kidsN a) [] with
   | none => rfl
   | some r =>
    obtain ⟨⟨m, hm, hml⟩, _, _⟩ := starts_spec _ (fun j s h => by simp at h) hst
    have hrl : r.length = a.length := by rw [hm]; simp [hml, kidsN]
    have hlt : a.length - 1 < r.length := by omega
    have hx : ix r ((a.length : Int) - 1) = some r[a.length - 1] := by
     have := ix_nat hlt
     rwa [show ((a.length - 1 : Nat) : Int) = (a.length : Int) - 1 by omega] at this
    simp only [oBs, cond_true]
    rw [wrap64 (n := (a.length : Int) - 1) (by omega) (by omega), hx, oBs, oBs]
    simp only [rootAt, List.getElem?_eq_getElem hlt]
    congr 1
  ·have e2 : decide ((a.length : Int) ≤ 400) = false := by simp; omega
   simp [e2, h2]
 ·have e1 : decide ((a.length : Int) ≥ 1) = false := by simp; omega
  simp [e1, h1]

theorem startsOf_is (N : Nat) (a : List SNode) (hN : 1048577 < N) : ∃ st, mi_startsOf N a = some (st, shapeB a) ∧ (a.length ≤ 400 → ∀ r, starts (kidsN a) [] = some r → st = r ∨ a = []) := by
 unfold mi_startsOf shapeB
 rw [within_is, oBs]
 by_cases h1 : 1 ≤ a.length
 ·by_cases h2 : a.length ≤ 400
  ·have e1 : decide ((a.length : Int) ≥ 1) = true := by simp; omega
   have e2 : decide ((a.length : Int) ≤ 400) = true := by simp; omega
   obtain ⟨st', hst', hr⟩ := implStarts_l1 N a (by omega) h1 N 0 [] (List.replicate a.length 0) (by omega) (by omega) rfl (by simp) (by simp) (fun j s h => by simp at h)
   rw [List.drop_zero] at hst' hr
   simp only [e1, e2, Bool.and_self, Bool.not_true, cond_false]
   rw [mk_some (by omega) (by simp only [maxLen]; omega), oBs]
   have hst2 : mi_startsOf_l1 N N (a, 0, List.replicate a.length 0) = _ := hst'
   rw [hst2]
   exact ⟨st', by simp [h1, h2], fun _ r h => .inl (hr r h)⟩
  ·have e2 : decide ((a.length : Int) ≤ 400) = false := by simp; omega
   exact ⟨[], by simp [e2, h2], fun h => absurd h h2⟩
 ·have e1 : decide ((a.length : Int) ≥ 1) = false := by simp; omega
  refine ⟨[], by simp [e1, h1], fun _ r _ => .inr ?_⟩
  cases a with
  | nil => rfl
  | cons => simp at h1

theorem shapeOk_impl (N : Nat) (a : List SNode) (hN : 1048577 < N) : mi_ShapeOk N a = some (shapeB a) := by
 obtain ⟨st, h, _⟩ := startsOf_is N a hN
 unfold mi_ShapeOk
 rw [h]
 rfl

end Go.Proofs.Tryz
