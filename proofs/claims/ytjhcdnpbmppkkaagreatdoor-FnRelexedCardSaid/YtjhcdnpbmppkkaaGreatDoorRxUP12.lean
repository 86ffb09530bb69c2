/-
 Plain lemmas on the models, part 12.
-/
import Derived.Test.YtjhcdnpbmppkkaaGreatDoorRxUP11
namespace Go.Proofs.Tryz
open Go.Av
set_option maxRecDepth 100000
set_option linter.unusedSimpArgs false
set_option linter.unusedVariables false

theorem name_l (N M : Nat) (s : List UInt8) (hs : s.length ≤ 1048576) : ∀ (n m i : Nat), s.length - i < n → s.length - i < m → i ≤ s.length → ∃ r : Nat, ms_NameEnd_l1 N n (s, (i : Int)) = some (r : Int) ∧ mi_NameEnd_l1 M m (s, (i : Int)) = some (r : Int) ∧ i ≤ r ∧ r ≤ s.length ∧ (wordB (atB s i) = true → i < r) := by
 intro n
 induction n with
 | zero => intro m i h; omega
 | succ n ih =>
  intro m i hn hm hi
  obtain ⟨m, rfl⟩ : ∃ k, m = k + 1 := ⟨m - 1, by omega⟩
  rw [ms_NameEnd_l1, mi_NameEnd_l1, l4Byte_is, byteAt_is s hs, Option.bind_some, Option.bind_some, word_spec, word_impl, Option.bind_some, Option.bind_some]
  cases h : wordB (atB s i) with
  | false => exact ⟨i, rfl, rfl, Nat.le_refl _, hi, fun h => by cases h⟩
  | true =>
   have := wordB_in h
   rw [cond_true, cond_true, step_i hs (by omega)]
   obtain ⟨r, h1, h2, h3, h4, _⟩ := ih m (i + 1) (by omega) (by omega) (by omega)
   exact ⟨r, h1, h2, by omega, h4, fun _ => by omega⟩

theorem name_ex (N : Nat) (s : List UInt8) (hs : s.length ≤ 1048576) (hN : s.length < N) (i : Nat) (hi : i < s.length) (hl : letB (atB s i) = true) :
  ∃ r : Nat, ms_NameEnd N s (i : Int) = some (r : Int) ∧ mi_NameEnd N s (i : Int) = some (r : Int) ∧ i < r ∧ r ≤ s.length := by
 unfold ms_NameEnd mi_NameEnd
 rw [l4Byte_is, byteAt_is s hs, Option.bind_some, Option.bind_some, let_spec, let_impl, Option.bind_some, Option.bind_some, hl]
 obtain ⟨r, h1, h2, h3, h4, h5⟩ := name_l N N s hs N N i (by omega) (by omega) (by omega)
 exact ⟨r, h1, h2, h5 (letB_word hl), h4⟩


def fl (s : List UInt8) : List UInt8 := s.takeWhile (· != 10)

theorem fl_nil : fl [] = [] := rfl
theorem fl_end (s : List UInt8) : fl (10 :: s) = [] := rfl
theorem fl_cons {c : UInt8} (h : c ≠ 10) (s : List UInt8) : fl (c :: s) = c :: fl s := by
 unfold fl
 rw [List.takeWhile_cons]
 have : (c != 10) = true := by simpa using h
 rw [this]
 rfl
theorem fl_le (s : List UInt8) : (fl s).length ≤ s.length := by
 induction s with
 | nil => simp [fl_nil]
 | cons c s ih =>
  by_cases h : c = 10
  ·subst h
   simp [fl_end]
  ·rw [fl_cons h]
   simpa using ih

theorem idx_is (s : List UInt8) : Go.Lib.indexByte s 10 = if (fl s).length < s.length then ((fl s).length : Int) else -1 := by
 induction s with
 | nil => rfl
 | cons c s ih =>
  unfold Go.Lib.indexByte
  by_cases hc : c = 10
  ·subst hc
   rw [fl_end]
   simp
  ·have hb : (c == 10) = false := by simpa using hc
   rw [hb, fl_cons hc, ih]
   simp only [Bool.false_eq_true, if_false, List.length_cons]
   by_cases h : (fl s).length < s.length
   ·have h1 : (((fl s).length : Int) == -1) = false := by
     cases hq : (((fl s).length : Int) == -1) with
     | false => rfl
     | true => have := eq_of_beq hq; omega
    have h' : (fl s).length + 1 < s.length + 1 := by omega
    simp only [if_pos h, if_pos h', h1]
    simp
   ·have h' : ¬ (fl s).length + 1 < s.length + 1 := by omega
    simp only [if_neg h, if_neg h']
    rfl


theorem word_ex (N : Nat) (s : List UInt8) (hs : s.length ≤ 1048576) (hN : 100 < N) (i e : Nat) (hie : i < e) (he : e ≤ s.length) :
  ∃ k : Int, ms_l5Word N s (i : Int) (e : Int) = some ⟨k, (s.drop i).take (e - i), i⟩ ∧ mi_wordToken N s (i : Int) (e : Int) = some ⟨k, (s.drop i).take (e - i), i⟩ ∧ okKind k := by
 unfold ms_l5Word mi_wordToken
 rw [cut_nat (by omega) he, Option.bind_some, Option.bind_some]
 obtain ⟨r, h1, h2, h3⟩ := kw_ex N ((s.drop i).take (e - i)) hN
 simp only [h1, h2, Option.bind_some]
 cases hr : (r != 0) with
 | true =>
  refine ⟨r, rfl, rfl, ?_⟩
  have : ¬ r = 0 := by simpa using hr
  exact .inr (.inl (by omega))
 | false =>
  obtain ⟨b, g1, g2, _⟩ := bi_ex N ((s.drop i).take (e - i)) hN
  simp only [cond_false, g1, g2, Option.bind_some]
  cases b with
  | true => exact ⟨8, rfl, rfl, .inl (by omega)⟩
  | false =>
   rw [l4Byte_is, byteAt_is s hs]
   simp only [cond_false, Option.bind_some]
   cases (atB s e == 40) with
   | true => exact ⟨7, rfl, rfl, .inl (by omega)⟩
   | false => exact ⟨6, rfl, rfl, .inl (by omega)⟩

theorem op_ex (N : Nat) (s : List UInt8) (hs : s.length ≤ 1048576) (hN : 100 < N) (i : Nat) (hi : i < s.length) :
  ∃ k b : Int, ms_OpAt N s (i : Int) = some (k, b) ∧ mi_OpAt N s (i : Int) = some (k, b) ∧ 0 ≤ b ∧ b ≤ s.length - i ∧ (k = 0 ↔ b = 0) ∧ (k = 0 ∨ (30 ≤ k ∧ k ≤ 68)) := op_ex2 N N s (by omega) hN hN i hi

theorem ends_ex (k : Int) : ∃ b : Bool, ms_EndsOperand k = some b ∧ mi_EndsOperand k = some b := by
 have e : mi_EndsOperand k = ms_EndsOperand k := rfl
 rw [e]
 have hk : ∀ b : Bool, ms_EndsOperand_k1 b = some b := by intro b; cases b <;> rfl
 have hb : ∀ (c d : Bool) (X : Option Bool), (∃ b, X = some b) → ∃ b, (bif c then some d else X) = some b := by
  intro c d X hX
  cases c
  ·exact hX
  ·exact ⟨d, rfl⟩
 unfold ms_EndsOperand
 simp only [hk]
 obtain ⟨b, h⟩ := hb (k == 3) (k == 3) _ (hb (k == 4) (k == 4) _ (hb (k == 5) (k == 5) _ (hb (k == 6) (k == 6) _ (hb (k == 8) (k == 8) _ (hb (k == 33) (k == 33) _ (hb (k == 35) (k == 35) _ (hb (k == 51) (k == 51) _ ⟨(k == 52), rfl⟩)))))))
 exact ⟨b, h, h⟩

def TokR (s : List UInt8) (i : Nat) (t u : SToken) : Prop :=
 (t.Kind = 0 ∧ u.Kind = 0) ∨ (t = u ∧ okKind t.Kind ∧ t.At = i ∧ 1 ≤ t.Text.length ∧ i + t.Text.length ≤ s.length)

theorem okKind_ne {k : Int} (h : okKind k) : ¬ k = 0 := by unfold okKind at h; omega

theorem k1_ex (N : Nat) (s : List UInt8) (i : Nat) (hi : i < s.length) (r K : Int) (hr : r = -1 ∨ (i < r ∧ r ≤ s.length)) (hK : okKind K) :
  ∃ t u, ms_l5Next_k1 N (s, (i : Int), r, K) = some t ∧ mi_tokenAt_k1 N (s, (i : Int), K, r) = some u ∧ TokR s i t u := by
 simp only [ms_l5Next_k1, mi_tokenAt_k1]
 have hk0 : (K == 0) = false := by
  cases e : (K == 0) with
  | false => rfl
  | true => exact absurd (eq_of_beq e) (okKind_ne hK)
 rw [hk0, cond_false, Option.bind_some]
 rcases hr with rfl | ⟨h1, h2⟩
 ·exact ⟨_, _, rfl, rfl, .inl ⟨rfl, rfl⟩⟩
 ·obtain ⟨e, rfl⟩ := Int.eq_ofNat_of_zero_le (show 0 ≤ r by omega)
  rw [decide_eq_false (by omega : ¬ (e : Int) < 0), cond_false, cond_false, cut_nat (by omega) (by omega), Option.bind_some]
  refine ⟨_, _, rfl, rfl, .inr ⟨rfl, hK, rfl, ?_, ?_⟩⟩
  ·simp; omega
  ·simp; omega

theorem note_l (N : Nat) (s : List UInt8) (hs : s.length ≤ 1048576) (i : Nat) : ∀ (n j : Nat), s.length - j < n → j ≤ s.length →
  ms_l5Next_l2 N n (s, (i : Int), (j : Int)) = ms_l5Next_k1 N (s, (i : Int), ((j + (fl (s.drop j)).length : Nat) : Int), 2) := by
 intro n
 induction n with
 | zero => intro j h; omega
 | succ n ih =>
  intro j hn hj
  have hne : ∀ b : UInt8, (((b).toNat : Int) != 10) = (b != 10) := by
   intro b
   have : (((b).toNat : Int) == 10) = (b == 10) := by
    cases h : (b == 10) with
    | true => have := eq_of_beq h; subst this; rfl
    | false =>
     have hne : b ≠ 10 := by simpa using h
     have : ¬ b.toNat = 10 := fun e => hne (UInt8.toNat.inj e)
     simp; omega
   rw [bne, bne, this]
  rw [ms_l5Next_l2]
  by_cases h : j < s.length
  ·rw [lt_true h, cond_true, ix_nat h, Option.bind_some, Option.bind_some, hne, drop_cons h, step_i hs (by omega)]
   by_cases hc : s[j] = 10
   ·rw [hc, fl_end]
    rfl
   ·have hb : (s[j] != 10) = true := by simpa using hc
    rw [hb, cond_true, ih (j + 1) (by omega) (by omega), fl_cons hc, List.length_cons]
    have e : j + 1 + (fl (s.drop (j + 1))).length = j + ((fl (s.drop (j + 1))).length + 1) := by omega
    rw [e]
  ·rw [lt_false h, cond_false, Option.bind_some, cond_false, drop_nil h, fl_nil]
   rfl

theorem tok_ex (N : Nat) (s : List UInt8) (hs : s.length ≤ 1048576) (hN : s.length + 200 < N) (i : Nat) (hi : i < s.length) (p : Int) (b : Bool) (hb : mi_EndsOperand p = some b) :
  ∃ t u, ms_l5Next N s (i : Int) (!b) = some t ∧ mi_tokenAt N s (i : Int) p = some u ∧ TokR s i t u := by
 unfold ms_l5Next mi_tokenAt
 rw [ix_nat hi, Option.bind_some, Option.bind_some, wrap_byte, hb]
 have hC : atB s i = (s[i].toNat : Int) := atB_lt hi
 cases h10 : ((s[i].toNat : Int) == 10) with
 | true =>
  rw [cond_true, cond_true, step_i hs (by omega)]
  have h10' : s[i] = 10 := by
   have := eq_of_beq h10
   exact UInt8.toNat.inj (by show s[i].toNat = 10; omega)
  simp only [mi_tokenAt_k1]
  have e1 : ((1 : Int) == 0) = false := rfl
  rw [e1, cond_false, Option.bind_some, decide_eq_false (by omega : ¬ ((i + 1 : Nat) : Int) < 0), cond_false, cut_nat (by omega) (by omega), Option.bind_some]
  have e2 : (s.drop i).take (i + 1 - i) = [10] := by
   rw [drop_cons hi, Nat.add_sub_cancel_left, h10']
   rfl
  rw [e2]
  exact ⟨_, _, rfl, rfl, .inr ⟨rfl, .inl ⟨Int.le_refl 1, (show (1 : Int) ≤ 8 by omega)⟩, rfl, Nat.le_refl 1, by simp; omega⟩⟩
 | false =>
  rw [cond_false, cond_false]
  cases h35 : ((s[i].toNat : Int) == 35) with
  | true =>
   rw [cond_true, cond_true, note_l N s hs i N i (by omega) (by omega), cut_nat (by omega) (Nat.le_refl _), Option.bind_some]
   have ht : (s.drop i).take (s.length - i) = s.drop i := List.take_of_length_le (by simp)
   have hx : m_strings_IndexByte (s.drop i) 10 = some (Go.Lib.indexByte (s.drop i) 10) := rfl
   have hfl := fl_le (s.drop i)
   have hdl : (s.drop i).length = s.length - i := by simp
   have hpos : 0 < (fl (s.drop i)).length := by
    rw [drop_cons hi]
    have hne : s[i] ≠ 10 := by
     intro e
     rw [e] at h10
     cases h10
    rw [fl_cons hne]
    simp
   rw [ht, hx, Option.bind_some, idx_is]
   by_cases hf : (fl (s.drop i)).length < (s.drop i).length
   ·rw [if_pos hf, decide_eq_true (by omega : ((fl (s.drop i)).length : Int) ≥ 0), cond_true, wrap64 (n := (i : Int) + (fl (s.drop i)).length) (by omega) (by omega), show (i : Int) + (fl (s.drop i)).length = ((i + (fl (s.drop i)).length : Nat) : Int) by omega]
    exact k1_ex N s i hi _ 2 (.inr ⟨by omega, by omega⟩) (.inl (by decide))
   ·rw [if_neg hf]
    have e1 : decide ((-1 : Int) ≥ 0) = false := rfl
    rw [e1, cond_false]
    have e2 : i + (fl (s.drop i)).length = s.length := by omega
    rw [e2]
    exact k1_ex N s i hi _ 2 (.inr ⟨by omega, by omega⟩) (.inl (by decide))
  | false =>
   rw [cond_false, cond_false, dig_spec, dig_impl]
   have hd : ((some (digB (s[i].toNat : Int))).bind fun r => bif r then some true else (some ((s[i].toNat : Int) == 46))) = some (digB (s[i].toNat : Int) || (s[i].toNat : Int) == 46) := by
    cases digB (s[i].toNat : Int) <;> rfl
   rw [hd, Option.bind_some, Option.bind_some]
   cases (digB (s[i].toNat : Int) || (s[i].toNat : Int) == 46) with
   | true =>
    obtain ⟨r, h1, h2, h3⟩ := num_ex N s hs (by omega) i hi
    rw [cond_true, cond_true, h1, h2, Option.bind_some, Option.bind_some]
    exact k1_ex N s i hi r 3 h3 (.inl (by decide))
   | false =>
    rw [cond_false, cond_false]
    cases ((s[i].toNat : Int) == 34) with
    | true =>
     obtain ⟨r, h1, h2, h3⟩ := str_ex N s hs (by omega) i hi
     rw [cond_true, cond_true, h1, h2, Option.bind_some, Option.bind_some]
     exact k1_ex N s i hi r 4 h3 (.inl (by decide))
    | false =>
     rw [cond_false, cond_false]
     have h47 : (bif ((s[i].toNat : Int) == 47) then some (!b) else some false) = some (((s[i].toNat : Int) == 47) && !b) := by
      cases ((s[i].toNat : Int) == 47) <;> rfl
     have h47' : (bif ((s[i].toNat : Int) == 47) then (some b).bind fun r52 => some (!r52) else some false) = some (((s[i].toNat : Int) == 47) && !b) := by
      cases ((s[i].toNat : Int) == 47) <;> rfl
     rw [h47, h47', Option.bind_some, Option.bind_some]
     cases (((s[i].toNat : Int) == 47) && !b) with
     | true =>
      obtain ⟨r, h1, h2, h3⟩ := ere_ex N s hs (by omega) i hi
      rw [cond_true, cond_true, h1, h2, Option.bind_some, Option.bind_some]
      exact k1_ex N s i hi r 5 h3 (.inl (by decide))
     | false =>
      rw [cond_false, cond_false, let_spec, let_impl, Option.bind_some, Option.bind_some]
      cases hl : letB (s[i].toNat : Int) with
      | true =>
       obtain ⟨r, h1, h2, h3, h4⟩ := name_ex N s hs (by omega) i hi (by rw [hC]; exact hl)
       obtain ⟨k, g1, g2, g3⟩ := word_ex N s hs (by omega) i r h3 h4
       obtain ⟨q, f1, f2⟩ := shape_ex N ((s.drop i).take (r - i)) (by simp; omega) (by simp; omega)
       rw [cond_true, cond_true, h1, h2, Option.bind_some, Option.bind_some, g1, Option.bind_some, cut_nat (by omega) h4, Option.bind_some, f1, f2, Option.bind_some, Option.bind_some]
       cases q with
       | false =>
        refine ⟨_, ⟨0, [], 0⟩, rfl, ?_, .inl ⟨rfl, rfl⟩⟩
        rfl
       | true =>
        rw [cond_true, g2]
        exact ⟨_, _, rfl, rfl, .inr ⟨rfl, g3, rfl, by simp; omega, by simp; omega⟩⟩
      | false =>
       obtain ⟨k, w, h1, h2, h3, h4, h5, h6⟩ := op_ex N s hs (by omega) i hi
       rw [cond_false, cond_false, h1, h2, Option.bind_some, Option.bind_some]
       by_cases hw : w = 0
       ·have hk : k = 0 := h5.2 hw
        subst hw hk
        exact ⟨_, ⟨0, [], 0⟩, rfl, rfl, .inl ⟨rfl, rfl⟩⟩
       ·have hwb : (w == 0) = false := by
         cases e : (w == 0) with
         | false => rfl
         | true => exact absurd (eq_of_beq e) hw
        have hk : ¬ k = 0 := fun h => hw (h5.1 h)
        simp only [hwb, cond_false]
        rw [wrap64 (n := (i : Int) + w) (by omega) (by omega)]
        exact k1_ex N s i hi _ k (.inr ⟨by omega, by omega⟩) (.inr (.inr (by omega)))

def inText (s : List UInt8) (t : SToken) : Prop := okKind t.Kind ∧ 0 ≤ t.At ∧ t.At + t.Text.length ≤ s.length

theorem lex_l (N M : Nat) (s : List UInt8) (hs : s.length ≤ 3000) (hN : s.length + 200 < N) (hM : s.length + 200 < M) : ∀ (n m i : Nat) (p : Int) (out : List SToken), s.length - i < n → s.length - i < m → i ≤ s.length → out.length ≤ i → (∀ t, t ∈ out → inText s t) →
  ∃ ts f, ms_Lex_l1 N n (s, p, (i : Int), out) = some (ts, f) ∧ mi_lexFrom_l1 N m (s, (i : Int), p, out) = some (ts, f) ∧ (∀ t, t ∈ ts → inText s t) ∧ (f = ⟨0, 0⟩ ∨ f.Kind = 2) ∧ ts.length ≤ s.length := by
 intro n
 induction n with
 | zero => intro m i p out h; omega
 | succ n ih =>
  intro m i p out hn hm hi ho hin
  obtain ⟨m, rfl⟩ : ∃ k, m = k + 1 := ⟨m - 1, by omega⟩
  rw [ms_Lex_l1, mi_lexFrom_l1]
  by_cases h : i < s.length
  ·have hbl : ∀ c : Int, ms_IsBlank c = some (c == 32 || c == 9) := by
    intro c
    unfold ms_IsBlank
    cases (c == 32) <;> rfl
   have hbl2 : ∀ c : Int, mi_IsBlank c = some (c == 32 || c == 9) := by
    intro c
    unfold mi_IsBlank
    cases (c == 32) <;> rfl
   have hst := step_i (by omega : s.length ≤ 1048576) (by omega : i ≤ s.length + 1)
   simp only [lt_true h, cond_true, ix_nat h, Option.bind_some, hbl, hbl2, hst]
   cases ((IntKind.wrap .i64 ((s[i].toNat : Nat) : Int) == 32) || (IntKind.wrap .i64 ((s[i].toNat : Nat) : Int) == 9)) with
   | true =>
    rw [cond_true, cond_true]
    exact ih m (i + 1) p out (by omega) (by omega) (by omega) (by omega) hin
   | false =>
    have hesc : (bif ((s[i].toNat : Int) == 92) then (ms_l4Byte s ((i + 1 : Nat) : Int)).bind fun r => some (r == 10) else (some false)) = some (((s[i].toNat : Int) == 92) && (atB s (i + 1) == 10)) := by
     rw [l4Byte_is]
     cases ((s[i].toNat : Int) == 92) <;> rfl
    have hesc2 : (bif ((s[i].toNat : Int) == 92) then (mi_byteAt s ((i + 1 : Nat) : Int)).bind fun r => some (r == 10) else (some false)) = some (((s[i].toNat : Int) == 92) && (atB s (i + 1) == 10)) := by
     rw [byteAt_is s (by omega)]
     cases ((s[i].toNat : Int) == 92) <;> rfl
    rw [cond_false, cond_false, hesc, hesc2, Option.bind_some, Option.bind_some]
    cases hq : (((s[i].toNat : Int) == 92) && (atB s (i + 1) == 10)) with
    | true =>
     have hlt : i + 1 < s.length := by
      refine atB_in fun e => ?_
      rw [e] at hq
      simp at hq
     rw [cond_true, cond_true, wrap64 (n := (i : Int) + 2) (by omega) (by omega), show (i : Int) + 2 = ((i + 2 : Nat) : Int) by omega]
     exact ih m (i + 2) p out (by omega) (by omega) (by omega) (by omega) hin
    | false =>
     obtain ⟨b, e1, e2⟩ := ends_ex p
     obtain ⟨t, u, h1, h2, h3⟩ := tok_ex N s (by omega) hN i h p b e2
     rw [cond_false, cond_false, e1, Option.bind_some, h1, h2, Option.bind_some, Option.bind_some]
     rcases h3 with ⟨k1, k2⟩ | ⟨rfl, k1, k2, k3, k4⟩
     ·rw [beq_iff_eq.2 k1, beq_iff_eq.2 k2]
      exact ⟨[], ⟨2, i⟩, rfl, rfl, (fun t ht => by cases ht), .inr rfl, by simp⟩
     ·have hk0 : (t.Kind == 0) = false := by
       cases e : (t.Kind == 0) with
       | false => rfl
       | true => exact absurd (eq_of_beq e) (okKind_ne k1)
      have hc : ((out.length : Int) == 3000) = false := by
       cases e : ((out.length : Int) == 3000) with
       | false => rfl
       | true => have := eq_of_beq e; omega
      rw [hk0, cond_false, cond_false, hc, cond_false, app_some (by simp; omega), Option.bind_some, Option.bind_some, wrap64 (n := (i : Int) + t.Text.length) (by omega) (by omega), show (i : Int) + t.Text.length = ((i + t.Text.length : Nat) : Int) by omega]
      refine ih m (i + t.Text.length) t.Kind (out ++ [t]) (by omega) (by omega) (by omega) (by simp; omega) fun x hx => ?_
      rcases List.mem_append.1 hx with hx | hx
      ·exact hin x hx
      ·simp only [List.mem_singleton] at hx
       subst hx
       exact ⟨k1, by omega, by omega⟩
  ·rw [lt_false h, cond_false, cond_false]
   exact ⟨out, ⟨0, 0⟩, rfl, rfl, hin, .inl rfl, by omega⟩

def OrdT (s : List UInt8) : Nat → List SToken → Prop
 | _, [] => True
 | lo, t :: r => okKind t.Kind ∧ ∃ a : Nat, t.At = (a : Int) ∧ lo ≤ a ∧ 1 ≤ t.Text.length ∧ a + t.Text.length ≤ s.length ∧ OrdT s (a + t.Text.length) r
theorem OrdT.mono {s : List UInt8} {lo lo' : Nat} (h : lo' ≤ lo) : ∀ {l : List SToken}, OrdT s lo l → OrdT s lo' l
 | [], _ => trivial
 | t :: r, ⟨h1, a, h2, h3, h4, h5, h6⟩ => ⟨h1, a, h2, by omega, h4, h5, h6⟩
theorem lex_ord_l (N : Nat) (s : List UInt8) (hs : s.length ≤ 3000) (hN : s.length + 200 < N) : ∀ (n i : Nat) (p : Int) (out ts : List SToken) (f : SFault), i ≤ s.length → ms_Lex_l1 N n (s, p, (i : Int), out) = some (ts, f) → (f.Kind = 0 → f = ⟨0, 0⟩ ∧ ∃ new, ts = out ++ new ∧ OrdT s i new) ∧ (f.Kind ≠ 0 → ts = []) := by
 intro n
 induction n with
 | zero => intro i p out ts f _ h; cases h
 | succ n ih =>
  intro i p out ts f hi hh
  rw [ms_Lex_l1] at hh
  by_cases h : i < s.length
  ·have hbl : ∀ c : Int, ms_IsBlank c = some (c == 32 || c == 9) := by
    intro c
    unfold ms_IsBlank
    cases (c == 32) <;> rfl
   have hst := step_i (by omega : s.length ≤ 1048576) (by omega : i ≤ s.length + 1)
   simp only [lt_true h, cond_true, ix_nat h, Option.bind_some, hbl, hst] at hh
   have more : ∀ (j : Nat) (q : Int), i ≤ j → j ≤ s.length → ms_Lex_l1 N n (s, q, (j : Int), out) = some (ts, f) → (f.Kind = 0 → f = ⟨0, 0⟩ ∧ ∃ new, ts = out ++ new ∧ OrdT s i new) ∧ (f.Kind ≠ 0 → ts = []) := fun j q h1 h2 h3 => by
    obtain ⟨g1, g2⟩ := ih j q out ts f h2 h3
    refine ⟨fun hf => ?_, g2⟩
    obtain ⟨e, new, e1, e2⟩ := g1 hf
    exact ⟨e, new, e1, e2.mono h1⟩
   cases hb : ((IntKind.wrap .i64 ((s[i].toNat : Nat) : Int) == 32) || (IntKind.wrap .i64 ((s[i].toNat : Nat) : Int) == 9)) with
   | true =>
    rw [hb, cond_true] at hh
    exact more (i + 1) p (by omega) (by omega) hh
   | false =>
    have hesc : (bif ((s[i].toNat : Int) == 92) then (ms_l4Byte s ((i + 1 : Nat) : Int)).bind fun r => some (r == 10) else (some false)) = some (((s[i].toNat : Int) == 92) && (atB s (i + 1) == 10)) := by
     rw [l4Byte_is]
     cases ((s[i].toNat : Int) == 92) <;> rfl
    rw [hb, cond_false, hesc, Option.bind_some] at hh
    cases hq : (((s[i].toNat : Int) == 92) && (atB s (i + 1) == 10)) with
    | true =>
     have hlt : i + 1 < s.length := by
      refine atB_in fun e => ?_
      rw [e] at hq
      simp at hq
     rw [hq, cond_true, wrap64 (n := (i : Int) + 2) (by omega) (by omega), show (i : Int) + 2 = ((i + 2 : Nat) : Int) by omega] at hh
     exact more (i + 2) p (by omega) (by omega) hh
    | false =>
     obtain ⟨b, e1, e2⟩ := ends_ex p
     obtain ⟨t, u, h1, h2, h3⟩ := tok_ex N s (by omega) hN i h p b e2
     rw [hq, cond_false, e1, Option.bind_some, h1, Option.bind_some] at hh
     rcases h3 with ⟨k1, k2⟩ | ⟨rfl, k1, k2, k3, k4⟩
     ·rw [beq_iff_eq.2 k1, cond_true] at hh
      cases hh
      exact ⟨fun h => (by cases h), fun _ => rfl⟩
     ·have hk0 : (t.Kind == 0) = false := by
       cases e : (t.Kind == 0) with
       | false => rfl
       | true => exact absurd (eq_of_beq e) (okKind_ne k1)
      rw [hk0, cond_false] at hh
      rcases cond_some hh with ⟨_, hh⟩ | ⟨_, hh⟩
      ·cases hh
       exact ⟨fun h => (by cases h), fun _ => rfl⟩
      ·obtain ⟨x, hx, hh⟩ := bind_some hh
       have hx : x = out ++ [t] := by
        unfold app at hx
        split at hx
        ·exact (Option.some.inj hx).symm
        ·cases hx
       subst hx
       rw [wrap64 (n := (i : Int) + t.Text.length) (by omega) (by omega), show (i : Int) + t.Text.length = ((i + t.Text.length : Nat) : Int) by omega] at hh
       obtain ⟨g1, g2⟩ := ih (i + t.Text.length) t.Kind (out ++ [t]) ts f (by omega) hh
       refine ⟨fun hf => ?_, g2⟩
       obtain ⟨e, new, e1, e2⟩ := g1 hf
       exact ⟨e, t :: new, by rw [e1]; simp, k1, i, k2, Nat.le_refl _, k3, by omega, e2⟩
  ·rw [lt_false h, cond_false] at hh
   cases hh
   exact ⟨fun _ => ⟨rfl, [], by simp, trivial⟩, fun h => absurd rfl h⟩
end Go.Proofs.Tryz
