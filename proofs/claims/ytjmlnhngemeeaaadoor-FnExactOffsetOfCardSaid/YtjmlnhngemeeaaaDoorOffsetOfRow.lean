/-
  ExactOffsetOf: for all arguments the law returns true: the program's function returns what the reference's returns.
  The tables that the row lists are tied to the program's text.
-/
import Derived.Test.YtjmlnhngemeeaaaDoorRows
import Derived.Test.YtjmlnhngemeeaaaDoorCards
import Derived.Test.YtjmlnhngemeeaaaDoorTie
import Derived.WalkKit
import Derived.ProofKit
import Derived.OpenShut
import Derived.Lay
import Derived.MakeChecks
import Derived.SevenTiedAt
import Derived.Test.YtjmlnhngemeeaaaDoorW3
import Derived.Test.YtjmlnhngemeeaaaDoorP1
import Derived.Test.YtjmlnhngemeeaaaDoorCore39
namespace Go.Proofs.YtjmlnhngemeeaaaDoor.fnExactOffsetOf
open Go.ChangeShapes Go.WideShapes Go.ChangeAt Go.RowKit Go.Av Go.Proofs.Tryd
set_option linter.unusedVariables false
set_option linter.unusedSimpArgs false
set_option maxRecDepth 100000

theorem own : ownKnob Tryd.prog.godebug = none := by kernel_rfl
theorem laidOut : laidOutB Tryd.prog = true := by kernel_rfl

/-- the letters ahead of the first end of a line -/
def fl (s : List UInt8) : List UInt8 := s.takeWhile (· != 10)

theorem fl_nil : fl [] = [] := rfl
theorem fl_end (s : List UInt8) : fl (10 :: s) = [] := rfl
theorem fl_cons {c : UInt8} (h : c ≠ 10) (s : List UInt8) : fl (c :: s) = c :: fl s := by
  unfold fl
  rw [List.takeWhile_cons]
  have : (c != 10) = true := by simpa using h
  rw [this]
  rfl
theorem fl_le (s : List UInt8) : (fl s).length ≤ s.length := by
  induction s with
  | nil => simp [fl_nil]
  | cons c s ih =>
    by_cases h : c = 10
    · subst h
      simp [fl_end]
    · rw [fl_cons h]
      simpa using ih

def lines (s : List UInt8) : List (List UInt8) :=
  if _ : (fl s).length < s.length then fl s :: lines (s.drop ((fl s).length + 1)) else [fl s]
termination_by s.length
decreasing_by simp; omega

theorem lines_more {s : List UInt8} (h : (fl s).length < s.length) : lines s = fl s :: lines (s.drop ((fl s).length + 1)) := by
  rw [lines, dif_pos h]
theorem lines_one {s : List UInt8} (h : ¬ (fl s).length < s.length) : lines s = [fl s] := by
  rw [lines, dif_neg h]

theorem fl_take (s : List UInt8) : s.take (fl s).length = fl s := by
  induction s with
  | nil => rfl
  | cons c s ih =>
    by_cases h : c = 10
    · subst h; rfl
    · rw [fl_cons h, List.length_cons, List.take_succ_cons, ih]

theorem fl_all {s : List UInt8} (h : ¬ (fl s).length < s.length) : fl s = s := by
  have := fl_take s
  rw [List.take_of_length_le (by have := fl_le s; omega)] at this
  exact this.symm

theorem fl_count {s : List UInt8} (h : (fl s).length < s.length) : s.count 10 = (s.drop ((fl s).length + 1)).count 10 + 1 := by
  induction s with
  | nil => simp [fl_nil] at h
  | cons c s ih =>
    by_cases hc : c = 10
    · subst hc
      rw [fl_end]
      simp
    · rw [fl_cons hc] at h ⊢
      simp only [List.length_cons, List.drop_succ_cons] at h ⊢
      rw [← ih (by omega), List.count_cons]
      have : (c == 10) = false := by simpa using hc
      simp [this]

theorem fl_count0 {s : List UInt8} (h : ¬ (fl s).length < s.length) : s.count 10 = 0 := by
  induction s with
  | nil => rfl
  | cons c s ih =>
    by_cases hc : c = 10
    · subst hc
      rw [fl_end] at h
      simp at h
    · rw [fl_cons hc] at h
      simp only [List.length_cons] at h
      rw [List.count_cons, ih (by omega)]
      have : (c == 10) = false := by simpa using hc
      simp [this]

theorem lines_len (s : List UInt8) : (lines s).length = s.count 10 + 1 := by
  generalize hn : s.length = n
  induction n using Nat.strongRecOn generalizing s with
  | ind n ih =>
    by_cases h : (fl s).length < s.length
    · rw [lines_more h, fl_count h, List.length_cons, ih _ (by simp; omega) _ rfl]
    · rw [lines_one h, fl_count0 h]
      rfl

def offs (ls : List (List UInt8)) : Nat := (ls.map (fun l => l.length + 1)).sum

theorem offs_cons (l : List UInt8) (ls : List (List UInt8)) : offs (l :: ls) = l.length + 1 + offs ls := by simp [offs]
theorem offs_take (ls : List (List UInt8)) (r : Nat) : offs (ls.take r) ≤ offs ls := by
  induction ls generalizing r with
  | nil => simp
  | cons l ls ih =>
    cases r with
    | zero => simp [offs]
    | succ r => rw [List.take_succ_cons, offs_cons, offs_cons]; have := ih r; omega

theorem lines_offs (s : List UInt8) : offs (lines s) = s.length + 1 := by
  generalize hn : s.length = n
  induction n using Nat.strongRecOn generalizing s with
  | ind n ih =>
    by_cases h : (fl s).length < s.length
    · rw [lines_more h, offs_cons, ih _ (by simp; omega) _ rfl]
      simp
      omega
    · have := fl_le s
      rw [lines_one h, offs_cons]
      simp [offs]
      omega

theorem idx_is (s : List UInt8) : Go.Lib.indexByte s 10 = if (fl s).length < s.length then ((fl s).length : Int) else -1 := by
  induction s with
  | nil => rfl
  | cons c s ih =>
    unfold Go.Lib.indexByte
    by_cases hc : c = 10
    · subst hc
      rw [fl_end]
      simp
    · have hb : (c == 10) = false := by simpa using hc
      rw [hb, fl_cons hc, ih]
      simp only [Bool.false_eq_true, if_false, List.length_cons]
      by_cases h : (fl s).length < s.length
      · have h1 : (((fl s).length : Int) == -1) = false := by
          cases hq : (((fl s).length : Int) == -1) with
          | false => rfl
          | true => have := eq_of_beq hq; omega
        have h' : (fl s).length + 1 < s.length + 1 := by omega
        simp only [if_pos h, if_pos h', h1]
        simp
      · have h' : ¬ (fl s).length + 1 < s.length + 1 := by omega
        simp only [if_neg h, if_neg h']
        rfl

theorem index_is (s : List UInt8) : m_strings_Index s = some (if (fl s).length < s.length then ((fl s).length : Int) else -1) := by
  have h0 : m_stringslite_Index s = some (Go.Lib.indexByte s 10) := by
    unfold m_stringslite_Index
    by_cases h : (([10] : List UInt8) == s) = true
    · have := eq_of_beq h
      subst this
      rfl
    · have hf : (([10] : List UInt8) == s) = false := by simpa using h
      rw [hf, cond_false]
      rfl
  unfold m_strings_Index
  rw [h0, Option.bind_some, idx_is]

theorem b10 (b : UInt8) : (((b).toNat : Int) != 10) = (b != 10) := by
  have : (((b).toNat : Int) == 10) = (b == 10) := by
    cases h : (b == 10) with
    | true => have := eq_of_beq h; subst this; rfl
    | false =>
      have hne : b ≠ 10 := by simpa using h
      have : ¬ b.toNat = 10 := fun e => hne (UInt8.toNat.inj e)
      simp; omega
  rw [bne, bne, this]

/-- what both return, r lines on from place p -/
def res (s : List UInt8) (p r : Nat) (col : Int) : Int × Bool :=
  match (lines (s.drop p))[r]? with
  | none => (0, false)
  | some l => bif decide (col - 1 > l.length) then (0, false) else (p + offs ((lines (s.drop p)).take r) + col - 1, true)

theorem spec_l2 (N : Nat) (kb : (List UInt8 × Int × Int × Int × Int) → Option (Int × Bool)) (s : List UInt8) (hs : s.length ≤ 1048576) (a1 a2 y : Int) (hy : IntKind.wrap .i64 (y + 1) = y + 1) : ∀ (n j : Nat), s.length - j < n → j ≤ s.length →
    m_spec_OffsetOf_l2 N kb n (s, a1, a2, y, (j : Int)) = if j + (fl (s.drop j)).length = s.length then some (0, false) else kb (s, a1, a2, ((j + (fl (s.drop j)).length + 1 : Nat) : Int), y + 1) := by
  intro n
  induction n with
  | zero => intro j h; omega
  | succ n ih =>
    intro j hn hj
    rw [m_spec_OffsetOf_l2]
    by_cases h : j < s.length
    · have hst : IntKind.wrap .i64 ((j : Int) + 1) = ((j + 1 : Nat) : Int) := step64 h (by simp only [maxLen]; omega)
      simp only [lt_true h, cond_true, ix_nat h, Option.bind_some, b10, hst, hy]
      rw [drop_cons h]
      by_cases hc : s[j] = 10
      · rw [hc, fl_end]
        have h1 : ((j : Int) == (s.length : Int)) = false := by
          cases hq : ((j : Int) == (s.length : Int)) with
          | false => rfl
          | true => have := eq_of_beq hq; omega
        rw [if_neg (by simp; omega)]
        simp [h1]
      · have hb : (s[j] != 10) = true := by simpa using hc
        rw [hb, cond_true, ih (j + 1) (by omega) (by omega), fl_cons hc]
        simp only [List.length_cons]
        have e : j + 1 + (fl (s.drop (j + 1))).length = j + ((fl (s.drop (j + 1))).length + 1) := by omega
        rw [e]
    · have hl : j = s.length := by omega
      simp only [lt_false h, cond_false, Option.bind_some]
      rw [drop_nil h, fl_nil, if_pos (by simp; omega)]
      subst hl
      simp

theorem spec_l3' (N : Nat) (kb : (List UInt8 × Int × Int × Int × Int) → Option (Int × Bool)) (s : List UInt8) (hs : s.length ≤ 1048576) (a2 y : Int) : ∀ (n j : Nat), s.length - j < n → j ≤ s.length →
    m_spec_OffsetOf_l3 N kb n (s, a2, y, (j : Int)) = bif (decide ((IntKind.wrap .i64 (a2 - 1)) > (IntKind.wrap .i64 (((j + (fl (s.drop j)).length : Nat) : Int) - y)))) then some (0, false) else some ((IntKind.wrap .i64 ((IntKind.wrap .i64 (y + a2)) - 1)), true) := by
  intro n
  induction n with
  | zero => intro j h; omega
  | succ n ih =>
    intro j hn hj
    rw [m_spec_OffsetOf_l3]
    by_cases h : j < s.length
    · have hst : IntKind.wrap .i64 ((j : Int) + 1) = ((j + 1 : Nat) : Int) := step64 h (by simp only [maxLen]; omega)
      simp only [lt_true h, cond_true, ix_nat h, Option.bind_some, b10, hst]
      rw [drop_cons h]
      by_cases hc : s[j] = 10
      · rw [hc, fl_end]
        simp
      · have hb : (s[j] != 10) = true := by simpa using hc
        rw [hb, cond_true, ih (j + 1) (by omega) (by omega), fl_cons hc]
        simp only [List.length_cons]
        have e : j + 1 + (fl (s.drop (j + 1))).length = j + ((fl (s.drop (j + 1))).length + 1) := by omega
        rw [e]
    · simp only [lt_false h, cond_false, Option.bind_some]
      rw [drop_nil h, fl_nil]
      simp

theorem spec_l1 (N : Nat) (s : List UInt8) (hs : s.length ≤ 1048576) (hN : s.length + 1 < N) (a1 a2 : Int) (h2 : 1 ≤ a2) (h22 : a2 ≤ 9223372036854775807) : ∀ (n p : Nat) (y : Int), s.length + 1 - p < n → p ≤ s.length → 1 ≤ y → y ≤ p + 1 → y ≤ a1 →
    m_spec_OffsetOf_l1 N n (s, a1, a2, (p : Int), y) = some (res s p (a1 - y).toNat a2) := by
  intro n
  induction n with
  | zero => intro p y h; omega
  | succ n ih =>
    intro p y hn hp hy hyp hya
    have hfl := fl_le (s.drop p)
    simp only [List.length_drop] at hfl
    rw [m_spec_OffsetOf_l1]
    by_cases h : y < a1
    · have hw : IntKind.wrap .i64 (y + 1) = y + 1 := wrap64 (by omega) (by omega)
      rw [decide_eq_true h, cond_true, spec_l2 N _ s hs a1 a2 y hw N p (by omega) hp]
      by_cases he : p + (fl (s.drop p)).length = s.length
      · rw [if_pos he]
        unfold res
        rw [lines_one (by simp only [List.length_drop]; omega)]
        obtain ⟨m, hm⟩ : ∃ m, (a1 - y).toNat = m + 1 := ⟨(a1 - y).toNat - 1, by omega⟩
        rw [hm]
        rfl
      · rw [if_neg he, ih _ _ (by omega) (by omega) (by omega) (by omega) (by omega)]
        unfold res
        obtain ⟨m, hm⟩ : ∃ m, (a1 - y).toNat = m + 1 := ⟨(a1 - y).toNat - 1, by omega⟩
        have hm2 : (a1 - (y + 1)).toNat = m := by omega
        rw [hm, hm2, lines_more (s := s.drop p) (by simp only [List.length_drop]; omega), List.drop_drop, ← Nat.add_assoc, List.getElem?_cons_succ, List.take_succ_cons, offs_cons]
        split
        · rfl
        · congr 2
          simp only [Prod.mk.injEq, and_true]
          omega
    · have e : y = a1 := by omega
      subst e
      rw [decide_eq_false (by omega), cond_false, spec_l3' N _ s hs a2 p N p (by omega) hp]
      have e0 : (y - y).toNat = 0 := by omega
      unfold res
      rw [e0]
      have hl : (lines (s.drop p))[0]? = some (fl (s.drop p)) := by
        by_cases h : (fl (s.drop p)).length < (s.drop p).length
        · rw [lines_more h]; rfl
        · rw [lines_one h]; rfl
      rw [hl, wrap64 (n := a2 - 1) (by omega) (by omega), wrap64 (n := ((p + (fl (s.drop p)).length : Nat) : Int) - p) (by omega) (by omega)]
      have e1 : ((p + (fl (s.drop p)).length : Nat) : Int) - p = ((fl (s.drop p)).length : Int) := by omega
      simp only [e1, List.take_zero]
      by_cases hc : a2 - 1 > ((fl (s.drop p)).length : Int)
      · rw [decide_eq_true hc]
        rfl
      · rw [decide_eq_false hc, cond_false, cond_false, wrap64 (n := (p : Int) + a2) (by omega) (by omega), wrap64 (by omega) (by omega)]
        simp [offs]

/-! ### the program's cut into lines -/
theorem split_l3 (N : Nat) (s : List UInt8) (hs : s.length ≤ 1048576) (c : Nat) (hc : (lines s).length = c + 1) : ∀ (n : Nat) (dn : List (List UInt8)) (rest : List UInt8) (i : Nat), dn.length = i → i ≤ c → rest.length ≤ s.length → lines s = dn ++ lines rest → c - i < n →
    m_strings_genSplit_l3 N n (0, s, ((c + 1 : Nat) : Int), rest, (i : Int), dn ++ List.replicate (c + 1 - i) []) = some (lines s) := by
  have hcl : c ≤ 1048576 := by
    have := lines_len s
    have h2 : s.count 10 ≤ s.length := List.count_le_length
    omega
  have hcs : c ≤ s.length := by
    have := lines_len s
    have h2 : s.count 10 ≤ s.length := List.count_le_length
    omega
  have hy : (if (IntKind.wrap .i64 ((s.length : Int) + 1)) < ((c + 1 : Nat) : Int) then (IntKind.wrap .i64 ((s.length : Int) + 1)) else ((c + 1 : Nat) : Int)) = ((c + 1 : Nat) : Int) := by
    rw [wrap64 (by omega) (by omega), if_neg (by omega)]
  intro n
  induction n with
  | zero => intro dn rest i _ _ _ _ h; omega
  | succ n ih =>
    intro dn rest i hdn hi hr hl hn
    have hll : (lines rest).length = c + 1 - i := by
      have := congrArg List.length hl
      simp only [List.length_append] at this
      omega
    have hlen : (dn ++ List.replicate (c + 1 - i) ([] : List UInt8)).length = c + 1 := by simp; omega
    have hlt : i < (dn ++ List.replicate (c + 1 - i) ([] : List UInt8)).length := by omega
    have hset : ∀ x : List UInt8, (dn ++ List.replicate (c + 1 - i) ([] : List UInt8)).set i x = (dn ++ [x]) ++ List.replicate (c + 1 - (i + 1)) [] := by
      intro x
      have e : c + 1 - i = (c + 1 - (i + 1)) + 1 := by omega
      rw [e, List.replicate_succ]
      have := set_mid dn [] x (List.replicate (c + 1 - (i + 1)) ([] : List UInt8))
      rw [hdn] at this
      rw [this]
      simp
    rw [m_strings_genSplit_l3, hy, wrap64 (n := ((c + 1 : Nat) : Int) - 1) (by omega) (by omega)]
    by_cases h : i < c
    · have hd : decide ((i : Int) < ((c + 1 : Nat) : Int) - 1) = true := decide_eq_true (by omega)
      have hmore : (fl rest).length < rest.length := by
        cases Nat.lt_or_ge (fl rest).length rest.length with
        | inl h => exact h
        | inr h' => rw [lines_one (by omega)] at hll; simp at hll; omega
      have hst : IntKind.wrap .i64 ((i : Int) + 1) = ((i + 1 : Nat) : Int) := by rw [wrap64 (by omega) (by omega)]; omega
      have hneg : decide (((fl rest).length : Int) < 0) = false := decide_eq_false (by omega)
      have hcut1 := cut_nat (l := rest) (Nat.zero_le (fl rest).length) (by omega)
      have hcut2 := cut_nat (l := rest) (a := (fl rest).length + 1) (b := rest.length) (by omega) (Nat.le_refl _)
      simp only [List.drop_zero, Nat.sub_zero, Int.natCast_zero] at hcut1
      have hw1 : IntKind.wrap .i64 (((fl rest).length : Int) + 0) = ((fl rest).length : Int) := by rw [wrap64 (by omega) (by omega)]; omega
      have hw2 : IntKind.wrap .i64 (((fl rest).length : Int) + 1) = (((fl rest).length + 1 : Nat) : Int) := by rw [wrap64 (by omega) (by omega)]; omega
      have e3 : (rest.drop ((fl rest).length + 1)).take (rest.length - ((fl rest).length + 1)) = rest.drop ((fl rest).length + 1) := List.take_of_length_le (by simp)
      rw [hd, cond_true, index_is, if_pos hmore, Option.bind_some, hneg, cond_false, hw1, hw2, hcut1, Option.bind_some, ix_nat hlt, Option.bind_some, upd_nat hlt, Option.bind_some, hcut2, Option.bind_some, hst, hset, fl_take, e3]
      refine ih (dn ++ [fl rest]) (rest.drop ((fl rest).length + 1)) (i + 1) (by simp [hdn]) (by omega) (by simp; omega) ?_ (by omega)
      rw [hl, lines_more hmore]
      simp
    · have hic : i = c := by omega
      subst hic
      have hd : decide ((i : Int) < ((i + 1 : Nat) : Int) - 1) = false := decide_eq_false (by omega)
      have hone : ¬ (fl rest).length < rest.length := by
        intro h
        rw [lines_more h] at hll
        have := lines_len (rest.drop ((fl rest).length + 1))
        simp only [List.length_cons] at hll
        omega
      have hst : IntKind.wrap .i64 ((i : Int) + 1) = ((i + 1 : Nat) : Int) := by rw [wrap64 (by omega) (by omega)]; omega
      rw [hd, cond_false]
      simp only [m_strings_genSplit_k2]
      rw [ix_nat hlt, Option.bind_some, upd_nat hlt, Option.bind_some, hset, hst]
      have hcut := cut_nat (l := (dn ++ [rest]) ++ List.replicate (i + 1 - (i + 1)) []) (Nat.zero_le (i + 1)) (by simp; omega)
      simp only [List.drop_zero, Nat.sub_zero, Int.natCast_zero] at hcut
      rw [hcut, Option.bind_some, hl, lines_one hone, fl_all hone]
      congr 1
      rw [Nat.sub_self, List.replicate_zero, List.append_nil, List.take_of_length_le (by simp; omega)]

theorem split_is (N : Nat) (s : List UInt8) (hs : s.length ≤ 1048576) (hN : 1048577 < N) : m_strings_Split N s = some (lines s) := by
  have hcl := lines_len s
  have h2 : s.count 10 ≤ s.length := List.count_le_length
  unfold m_strings_Split m_strings_genSplit
  have e0 : ((-1 : Int) == 0) = false := rfl
  have e1 : decide ((-1 : Int) < 0) = true := rfl
  have hcount : m_strings_Count s = some (s.count 10 : Int) := rfl
  rw [e0, cond_false, e1, cond_true, hcount, Option.bind_some, wrap64 (n := (s.count 10 : Int) + 1) (by omega) (by omega)]
  unfold m_strings_genSplit_k1
  have hy : (if (IntKind.wrap .i64 ((s.length : Int) + 1)) < (s.count 10 : Int) + 1 then (IntKind.wrap .i64 ((s.length : Int) + 1)) else (s.count 10 : Int) + 1) = ((s.count 10 + 1 : Nat) : Int) := by
    rw [wrap64 (by omega) (by omega), if_neg (by omega)]
    omega
  have hmk := mk_some (n := 16) (z := ([] : List UInt8)) (i := s.count 10 + 1) (by omega) (by simp only [maxLen]; omega)
  simp only [hy]
  rw [hmk, Option.bind_some]
  have h3 := split_l3 N s hs (s.count 10) (by omega) N [] s 0 rfl (by omega) (Nat.le_refl _) rfl (by omega)
  have e4 : (s.count 10 : Int) + 1 = ((s.count 10 + 1 : Nat) : Int) := by omega
  rw [e4]
  have h3' : m_strings_genSplit_l3 N N (0, s, ((s.count 10 + 1 : Nat) : Int), s, 0, List.replicate (s.count 10 + 1) []) = some (lines s) := h3
  rw [h3', Option.bind_some]

theorem offs_len (l : List (List UInt8)) : l.length ≤ offs l := by
  induction l with
  | nil => simp
  | cons x l ih => rw [offs_cons]; simp; omega

theorem sum_l (N : Nat) (ls : List (List UInt8)) (hll : ls.length ≤ 4000000) : ∀ (n i : Nat) (y : Int), ls.length - i < n → i ≤ ls.length → 0 ≤ y → y + offs (ls.drop i) ≤ 4000000 →
    m_impl_OffsetOf_l1 N n (ls, y, (i : Int)) = some (y + offs (ls.drop i), true) := by
  intro n
  induction n with
  | zero => intro i y h; omega
  | succ n ih =>
    intro i y hn hi h0 h1
    rw [m_impl_OffsetOf_l1]
    by_cases h : i < ls.length
    · rw [drop_cons h, offs_cons] at h1
      have hst : IntKind.wrap .i64 ((i : Int) + 1) = ((i + 1 : Nat) : Int) := by rw [wrap64 (by omega) (by omega)]; omega
      simp only [lt_true h, cond_true, ix_nat h, Option.bind_some, hst]
      rw [wrap64 (n := (ls[i].length : Int) + 1) (by omega) (by omega), wrap64 (by omega) (by omega), ih (i + 1) _ (by omega) (by omega) (by omega) (by omega), drop_cons h, offs_cons]
      congr 2
      skip
      omega
    · simp only [lt_false h, cond_false]
      rw [drop_nil h]
      simp [offs]

theorem within_is (a b c : Int) : m_impl_within a b c = some (decide (a ≥ b) && decide (a ≤ c)) := by
  unfold m_impl_within
  by_cases h : a ≥ b <;> simp [h]

theorem same (N : Nat) (s : List UInt8) (a1 a2 : Int) (hs : s.length ≤ 1048576) (hN : 1048580 < N) (h11 : a1 ≤ 9223372036854775807) (h12 : -9223372036854775808 ≤ a1) (h21 : a2 ≤ 9223372036854775807) (h22 : -9223372036854775808 ≤ a2) :
    ∃ r, m_spec_OffsetOf N s a1 a2 = some r ∧ m_impl_OffsetOf N s a1 a2 = some r := by
  unfold m_spec_OffsetOf m_impl_OffsetOf
  rw [split_is N s hs (by omega), Option.bind_some, within_is, Option.bind_some]
  have hll := lines_len s
  have hlo := lines_offs s
  have hlc := offs_len (lines s)
  by_cases h1 : a1 < 1
  · have e1 : decide (a1 ≥ 1) = false := decide_eq_false (by omega)
    rw [decide_eq_true h1, e1]
    exact ⟨(0, false), rfl, rfl⟩
  · have e1 : decide (a1 ≥ 1) = true := decide_eq_true (by omega)
    rw [decide_eq_false h1, cond_false, e1, Bool.true_and]
    obtain ⟨r, hr⟩ : ∃ r : Nat, a1 = (r : Int) + 1 := ⟨(a1 - 1).toNat, by omega⟩
    subst hr
    by_cases h2 : a2 < 1
    · rw [decide_eq_true h2]
      refine ⟨(0, false), rfl, ?_⟩
      by_cases h3 : (r : Int) + 1 ≤ ((lines s).length : Int)
      · have hr : r < (lines s).length := by omega
        have e2 : decide (a2 ≥ 1) = false := decide_eq_false (by omega)
        rw [decide_eq_true h3, Bool.not_true, cond_false, wrap64 (by omega) (by omega), show (r : Int) + 1 - 1 = (r : Int) by omega, ix_nat hr, Option.bind_some, within_is, e2]
        rfl
      · rw [decide_eq_false h3]
        rfl
    · have h4 := spec_l1 N s hs (by omega) ((r : Int) + 1) a2 (by omega) h21 N 0 1 (by omega) (by omega) (by omega) (by omega) (by omega)
      have h4' : m_spec_OffsetOf_l1 N N (s, (r : Int) + 1, a2, 0, 1) = some (res s 0 r a2) := by
        have e : ((r : Int) + 1 - 1).toNat = r := by omega
        rw [e] at h4
        exact h4
      rw [decide_eq_false h2, Option.bind_some, cond_false, h4']
      refine ⟨_, rfl, ?_⟩
      unfold res
      rw [List.drop_zero]
      by_cases h3 : (r : Int) + 1 ≤ ((lines s).length : Int)
      · have hr : r < (lines s).length := by omega
        have e2 : decide (a2 ≥ 1) = true := decide_eq_true (by omega)
        have hlr : (lines s)[r].length ≤ 1048577 := by
          have hd := offs_take ((lines s).drop r) 1
          have hd2 : offs (lines s) = offs ((lines s).take r) + offs ((lines s).drop r) := by
            have : (lines s) = (lines s).take r ++ (lines s).drop r := (List.take_append_drop r _).symm
            rw [this]
            unfold offs
            rw [List.map_append, List.sum_append, ← this]
          rw [drop_cons hr, offs_cons] at hd2
          omega
        rw [decide_eq_true h3, Bool.not_true, cond_false, wrap64 (n := (r : Int) + 1 - 1) (by omega) (by omega), show (r : Int) + 1 - 1 = (r : Int) by omega, ix_nat hr, Option.bind_some, within_is, e2, Bool.true_and, Option.bind_some, List.getElem?_eq_getElem hr, wrap64 (n := ((lines s)[r].length : Int) + 1) (by omega) (by omega)]
        simp only []
        by_cases h5 : a2 - 1 > ((lines s)[r].length : Int)
        · rw [decide_eq_false (p := a2 ≤ ((lines s)[r].length : Int) + 1) (by omega), decide_eq_true h5]
          rfl
        · rw [decide_eq_true (p := a2 ≤ ((lines s)[r].length : Int) + 1) (by omega), decide_eq_false h5]
          have hcut := cut_nat (l := lines s) (Nat.zero_le r) (by omega)
          simp only [List.drop_zero, Nat.sub_zero, Int.natCast_zero] at hcut
          have ht := offs_take (lines s) r
          have hsum := sum_l N ((lines s).take r) (by simp; omega) N 0 (a2 - 1) (by simp; omega) (by omega) (by omega) (by rw [List.drop_zero]; omega)
          rw [List.drop_zero] at hsum
          have hsum' : m_impl_OffsetOf_l1 N N ((lines s).take r, a2 - 1, 0) = _ := hsum
          simp only [Bool.not_true, Option.bind_some, cond_false]
          rw [hcut, Option.bind_some, wrap64 (n := a2 - 1) (by omega) (by omega), hsum']
          congr 2
          skip
          omega
      · have hr : ¬ r < (lines s).length := by omega
        rw [decide_eq_false h3, List.getElem?_eq_none (by omega)]
        rfl

theorem plain (s : List UInt8) (a b : Int) (ks : s.length ≤ maxLen) (ka : (Go.Lit.int .i64 a).wf = true) (kb : (Go.Lit.int .i64 b).wf = true) : ∃ N, m_laws_FnExactOffsetOf N s a b = some true := by
  refine ⟨1048581, ?_⟩
  have ha : -9223372036854775808 ≤ a ∧ a ≤ 9223372036854775807 := by simpa [Lit.wf, IntKind.min, IntKind.max, IntKind.signed, IntKind.bits] using ka
  have hb : -9223372036854775808 ≤ b ∧ b ≤ 9223372036854775807 := by simpa [Lit.wf, IntKind.min, IntKind.max, IntKind.signed, IntKind.bits] using kb
  unfold m_laws_FnExactOffsetOf
  by_cases h : (s.length : Int) > 1048576
  · simp [h]
  · obtain ⟨r, h1, h2⟩ := same 1048581 s a b (by omega) (by omega) (by omega) (by omega) (by omega) (by omega)
    have hd : decide ((s.length : Int) > 1048576) = false := by simp; omega
    have e : (!(r.2 == r.2)) = false := by simp
    simp only [hd, cond_false, h1, h2, Option.bind_some, bne_self_eq_false, e]


theorem kids : Go.Kids Tryd.prog (· < Tryd.prog.types.size) := kids_rows (by kernel_rfl) (by kernel_rfl)
theorem full : ∀ t e, t < Tryd.prog.types.size → Tryd.prog.underlying t = some (.slice e) → 0 < Tryd.prog.cellsOf e := slices_full_of Tryd.prog (by kernel_rfl)

/-- what the row lists -/
def lay : List (String × DataW Unit) := [("unicode/utf8.acceptRanges", Rows.laid_unicode_utf8_acceptRanges), ("unicode/utf8.first", Rows.laid_unicode_utf8_first)]

theorem lifted (os : Os) (started : os.Started) (H : Type) (enc : TypeId × Value → H) :
    ReturnsInHanded {} Tryd.checked os 4 .any (fun w args => (Rows.fnExactOffsetOfSpec.pre enc Tryd.prog Tryd.f4 Rows.fnExactOffsetOfRow.domain false w args ∧ laidMetH Tryd.prog lay w) ∧ sizedMet enc Tryd.prog Tryd.f4 (OpenSpec.ofChange Rows.fnExactOffsetOfSpec) false w args) (Rows.fnExactOffsetOfSpec.post enc Tryd.prog Tryd.f4 false true false false) := by
  refine returnsInHanded_of_change_and (C := Tryd.checked) (X := fun w _ => laidMetH Tryd.prog lay w) (fun _ _ _ hh h => h.of_heap hh) own started (by kernel_rfl) Tryd.func4
    (ChangeSpec.witness_at (enc := enc) (C := Tryd.checked) (os := os) (X := fun w _ => laidMetH Tryd.prog lay w) false (World.laidAll Tryd.prog os lay) #[.string ⟨#[]⟩, .int .i64 0, .int .i64 0] 12 (World.laidAll_os _ _ _) (by kernel_rfl) (by kernel_rfl) (by kernel_rfl) (by kernel_rfl) (by kernel_rfl)
      (by rw [MakeChecks.laidMetH_plain _ _ _ (by kernel_rfl)]; exact laidMet_laidAll _ (by kernel_rfl) (by kernel_rfl))) ?_
  intro W base args ds gs before hval0 hW hcnd _ hL _
  have hval : ∀ (j : Nat) t v, Tryd.f4.params[j]? = some t → args[j]? = some v → Value.okWide Tryd.prog W .any base t v := hval0
  have hW' := hW
  obtain ⟨p, q, hA0, hV0, rfl, hfz, hnd⟩ := hW
  have hA : DataW.TrodAll enc Tryd.prog W 0 (fun _ => true) true Tryd.f4.params.toList args.toList ds p := hA0
  have hV : DataW.TrodVars enc Tryd.prog W (fun _ => true) [] gs q := hV0
  rw [Tryd.params4] at hA hval
  have hA1 := hA
  obtain ⟨v0, vs0, d0, ds0, p0, q0, hargs, rfl, rfl, h0, r0⟩ := trodAll_cons hA
  obtain ⟨v1, vs1, d1, ds1, p1, q1, rfl, rfl, rfl, h1, r1⟩ := trodAll_cons r0
  obtain ⟨v2, vs2, d2, ds2, p2, q2, rfl, rfl, rfl, h2, r2⟩ := trodAll_cons r1
  obtain ⟨rfl, rfl, rfl⟩ := trodAll_nil r2
  obtain rfl : args = #[v0, v1, v2] := by cases args; simp_all
  have hA2 : DataW.TrodAll enc Tryd.prog W 0 (fun _ => true) true [9, 3, 3] [v0, v1, v2] [d0, d1, d2] (p0 ++ (p1 ++ (p2 ++ []))) := hA1
  obtain ⟨rfl, rfl⟩ := trodVars_none hV
  obtain ⟨fu0, hf0⟩ := h0
  obtain ⟨a0, k0, c0⟩ := (Reader.str Tryd.underlying9) enc W fu0 _ _ hf0
  obtain ⟨n0, rfl⟩ := okWide_string Tryd.underlying9 (hval 0 9 v0 rfl rfl)
  obtain ⟨fu1, hf1⟩ := h1
  obtain ⟨a1, k1, c1⟩ := (Reader.i64 Tryd.underlying3) enc W fu1 _ _ hf1
  obtain ⟨n1, rfl⟩ := okWide_int Tryd.underlying3 (hval 1 3 v1 rfl rfl)
  obtain ⟨fu2, hf2⟩ := h2
  obtain ⟨a2, k2, c2⟩ := (Reader.i64 Tryd.underlying3) enc W fu2 _ _ hf2
  obtain ⟨n2, rfl⟩ := okWide_int Tryd.underlying3 (hval 2 3 v2 rfl rfl)
  have hlt : ∀ b, (fun b => blocksOf (p0 ++ (p1 ++ (p2 ++ []))) b) b → b < W.heap.size := by
    intro b hb
    obtain ⟨m, hm, rfl⟩ := hb
    · exact DataW.TrodAll.lt hA1 m (by simpa using hm)
  obtain ⟨N, hN⟩ := plain a0 a1 a2 k0 k1 k2
  refine (AC.belowG (m_laws_FnExactOffsetOf_ok N a0 a1 a2 hN) (fun b => blocksOf (p0 ++ (p1 ++ (p2 ++ []))) b) hlt (fun _ _ h => by simp [GS] at h) rfl fun i x hx => ?_).mono ?_
  · match i with
    | 0 =>
      simp only [List.getElem?_cons_succ, List.getElem?_cons_zero, Option.some.injEq] at hx
      subst hx
      exact argOne rfl (c0 _ fun p hp => ⟨p, by simp [hp], rfl⟩)
    | 1 =>
      simp only [List.getElem?_cons_succ, List.getElem?_cons_zero, Option.some.injEq] at hx
      subst hx
      exact argOne rfl (c1 _ fun p hp => ⟨p, by simp [hp], rfl⟩)
    | 2 =>
      simp only [List.getElem?_cons_succ, List.getElem?_cons_zero, Option.some.injEq] at hx
      subst hx
      exact argOne rfl (c2 _ fun p hp => ⟨p, by simp [hp], rfl⟩)
    | i + 3 => simp at hx
  · rintro e W' ⟨x, S', rfl, hx, hb⟩
    have hxt := hx.c_inv
    subst hxt
    exact ⟨_, rfl, Av.post_of_below (pa := (p0 ++ (p1 ++ (p2 ++ [])))) (pv := []) hW' (fun _ _ _ => (trodAll_cons_mk (shut_bool Tryd.underlying4 _) trodAll_mk0))
      (fun sp hsp => args_kept kids full hb (by decide +kernel) hA2 (fun m hm => hsp m (by simpa using hm))) (fun _ _ => rfl) (by simp) hb (ok_one (by kernel_rfl) rfl (okWide_bool_mk Tryd.underlying4 _))⟩

theorem over : Rows.fnExactOffsetOfRow.holds Tryd.pinned (OpenSpec.ofChange Rows.fnExactOffsetOfSpec) :=
  OpenClaim.holds_of_wide 4 Tryd.f4 rfl rfl rfl rfl rfl rfl rfl ⟨rfl, rfl, rfl, rfl, rfl⟩ rfl rfl rfl rfl rfl (by kernel_rfl) Tryd.func4 (by kernel_rfl)
    (of_decide_eq_true (by kernel_rfl)) (by unfold Func.isWrapper; first | (rw [if_pos (by decide +kernel)]; kernel_rfl) | (rw [if_neg (by decide +kernel)]; exact ⟨rfl, rfl⟩))
    (fun os started H enc _ => lifted os started H enc)

/-- the statement -/
theorem proved : Rows.FnExactOffsetOfCardSaid :=
  Claim7.holds_tied_plain_at .later [] [.data, .pinned] true (true, "07eaec5f2b6f543fb5cdbfe2ffb1fd1099b65945ea79c247d38cdfda68164ca3") false
    over (fun _ h => by cases h) (by kernel_rfl) (fun _ h => by cases h) fnExactOffsetOf_row_tie rfl ⟨rfl, rfl⟩ (by kernel_rfl) rfl
    (fun f fn hf hfn => by
      obtain rfl : f = 4 := Option.some.inj ((show Tryd.prog.funcNamed "loop.example/g01543/laws.FnExactOffsetOf" = some 4 by kernel_rfl).symm.trans hf) |>.symm
      obtain rfl : fn = Tryd.f4 := (Option.some.inj (Tryd.func4.symm.trans hfn)).symm
      exact ⟨by kernel_rfl, fun j t ht => by
        rw [Tryd.params4] at ht
        have hm : t ∈ [9, 3, 3] := by simpa using Array.mem_of_getElem? ht
        have hall : ([9, 3, 3].all fun u => !Tryd.prog.wantsStandIn u) = true := by kernel_rfl
        exact (show Tryd.prog.wantsStandIn t = false by simpa using List.all_eq_true.1 hall t hm)⟩)
    (by kernel_rfl)
#print axioms proved
end Go.Proofs.YtjmlnhngemeeaaaDoor.fnExactOffsetOf
