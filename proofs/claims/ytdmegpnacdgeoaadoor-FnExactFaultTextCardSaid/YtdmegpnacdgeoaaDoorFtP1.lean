/-
  Plain lemmas on the models, part 1.
-/
import Derived.Test.YtdmegpnacdgeoaaDoorFtM1
namespace Go.Proofs.Tryd
open Go.Av
set_option maxRecDepth 100000
set_option linter.unusedSimpArgs false
set_option linter.unusedVariables false

/-! ### lines and columns: both reckon the same -/
/-- the place behind the last end of a line ahead of place i -/
def nlG (s : List UInt8) : Nat → Nat
  | 0 => 0
  | i + 1 => if s[i]? = some 10 then i + 1 else nlG s i

theorem nlG_succ (s : List UInt8) (i : Nat) : nlG s (i + 1) = if s[i]? = some 10 then i + 1 else nlG s i := rfl

theorem nlG_le (s : List UInt8) : ∀ i, nlG s i ≤ i
  | 0 => Nat.le_refl _
  | i + 1 => by
    unfold nlG
    split
    · exact Nat.le_refl _
    · have := nlG_le s i; omega

theorem nlG_take (s : List UInt8) (m : Nat) : ∀ i, i ≤ m → nlG (s.take m) i = nlG s i
  | 0, _ => rfl
  | i + 1, h => by
    rw [nlG_succ, nlG_succ, List.getElem?_take, if_pos (show i < m by omega), nlG_take s m i (Nat.le_of_succ_le h)]

theorem b10 (b : UInt8) : (((b).toNat : Int) == 10) = (b == 10) := by
  cases h : (b == 10) with
  | true => have := eq_of_beq h; subst this; rfl
  | false =>
    have hne : b ≠ 10 := by simpa using h
    have : ¬ b.toNat = 10 := fun e => hne (UInt8.toNat.inj e)
    simp; omega

theorem count_step (s : List UInt8) {i : Nat} (h : i < s.length) : (s.take (i + 1)).count 10 = (s.take i).count 10 + if s[i] = 10 then 1 else 0 := by
  rw [List.take_add_one, List.getElem?_eq_getElem h]
  simp only [Option.toList_some, List.count_append, List.count_singleton]
  by_cases hb : s[i] = 10 <;> simp [hb]

theorem spec_l (N : Nat) (s : List UInt8) (m : Nat) (hm : m ≤ s.length) (hs : s.length ≤ 1048576) : ∀ (n i : Nat), m - i < n → i ≤ m →
    m_spec_LineCol_l1 N n (s, (m : Int), 1 + ((s.take i).count 10 : Int), (nlG s i : Int), (i : Int)) = some (1 + ((s.take m).count 10 : Int), (m : Int) - nlG s m + 1) := by
  intro n
  induction n with
  | zero => intro i h; omega
  | succ n ih =>
    intro i hn hi
    rw [m_spec_LineCol_l1]
    by_cases h : i < m
    · have hlt : i < s.length := by omega
      have hst : IntKind.wrap .i64 ((i : Int) + 1) = ((i + 1 : Nat) : Int) := step64 hlt (by simp only [maxLen]; omega)
      have hc : (s.take i).count 10 ≤ s.length := Nat.le_trans List.count_le_length (by simp; omega)
      have hb : s[i]? = some s[i] := List.getElem?_eq_getElem hlt
      simp only [lt_true h, cond_true, ix_nat hlt, Option.bind_some, b10, m_spec_LineCol_k2, hst]
      rw [wrap64 (n := 1 + ((s.take i).count 10 : Int) + 1) (by omega) (by omega)]
      have h2 := ih (i + 1) (by omega) (by omega)
      rw [count_step s hlt] at h2
      rw [nlG_succ, hb] at h2
      by_cases he : s[i] = 10
      · simp only [he, beq_self_eq_true, cond_true, if_true] at h2 ⊢
        rw [← h2]
        congr 2
      · have hbq : (s[i] == 10) = false := by simpa using he
        have hso : ¬ (some s[i] = some 10) := by simpa using he
        simp only [hbq, cond_false, he, if_false, hso, Nat.add_zero] at h2 ⊢
        exact h2
    · simp only [lt_false h, cond_false]
      have : i = m := by omega
      subst this
      have := nlG_le s i
      rw [wrap64 (n := (i : Int) - nlG s i) (by omega) (by omega), wrap64 (by omega) (by omega)]

theorem last_l (N : Nat) (p : List UInt8) (hp : p.length ≤ 1048576) : ∀ (n j : Nat), j < n → j ≤ p.length →
    m_bytealg_LastIndexByteString_l1 N n (p, 10, (j : Int) - 1) = some ((nlG p j : Int) - 1) := by
  intro n
  induction n with
  | zero => intro j h; omega
  | succ n ih =>
    intro j hn hj
    rw [m_bytealg_LastIndexByteString_l1]
    cases j with
    | zero => simp [nlG]
    | succ j =>
      have hlt : j < p.length := by omega
      have hge : decide (((j + 1 : Nat) : Int) - 1 ≥ 0) = true := decide_eq_true (by omega)
      have e1 : ((j + 1 : Nat) : Int) - 1 = (j : Int) := by omega
      rw [e1] at hge ⊢
      rw [wrap64 (n := (j : Int) - 1) (by omega) (by omega)]
      simp only [hge, cond_true, ix_nat hlt, Option.bind_some, b10]
      rw [nlG_succ, List.getElem?_eq_getElem hlt]
      by_cases he : p[j] = 10
      · simp [he]
      · have hbq : (p[j] == 10) = false := by simpa using he
        have hso : ¬ (some p[j] = some 10) := by simpa using he
        rw [hbq, if_neg hso, cond_false]
        exact ih j (by omega) (by omega)

theorem linecol_same (N : Nat) (s : List UInt8) (m : Int) (hs : s.length ≤ 1048576) (hN : 1048577 < N) : ∃ r, m_spec_LineCol N s m = some r ∧ m_impl_LineCol N s m = some r := by
  unfold m_spec_LineCol m_impl_LineCol m_spec_l1In m_impl_within
  by_cases h : 0 ≤ m ∧ m ≤ s.length
  · obtain ⟨m, rfl⟩ := Int.eq_ofNat_of_zero_le h.1
    have hm : m ≤ s.length := by omega
    have h1 : decide ((m : Int) ≥ 0) = true := by simp
    have h2 : decide ((m : Int) ≤ (s.length : Int)) = true := by simp [hm]
    simp only [h1, h2, cond_true, Option.bind_some, Bool.not_true, cond_false]
    have h3 := spec_l N s m hm hs N 0 (by omega) (by omega)
    simp only [List.take_zero, List.count_nil, nlG] at h3
    refine ⟨_, h3, ?_⟩
    have hcut := cut_nat (l := s) (Nat.zero_le m) hm
    simp only [List.drop_zero, Nat.sub_zero] at hcut
    have hcut' : cut s 0 (m : Int) = some (s.take m) := hcut
    have hl : (s.take m).length = m := by simp; omega
    have hlast := last_l N (s.take m) (by omega) N m (by omega) (by omega)
    have hc : (s.take m).count 10 ≤ m := by have := List.count_le_length (a := 10) (l := s.take m); omega
    have hg := nlG_le s m
    have hcount : m_strings_Count (s.take m) = some ((s.take m).count 10 : Int) := rfl
    rw [hcut', Option.bind_some, hcount, Option.bind_some, Option.bind_some]
    unfold m_strings_LastIndexByte m_bytealg_LastIndexByteString
    rw [hl, wrap64 (n := (m : Int) - 1) (by omega) (by omega), hlast, Option.bind_some, Option.bind_some, nlG_take s m m (Nat.le_refl m), wrap64 (by omega) (by omega), wrap64 (by omega) (by omega)]
    congr 2
    · omega
    · omega
  · refine ⟨(0, 0), ?_, ?_⟩
    all_goals
      by_cases h1 : m ≥ 0
      · have h2 : ¬ m ≤ (s.length : Int) := fun h' => h ⟨h1, h'⟩
        simp [h1, h2]
      · simp [h1]

theorem lineCol_ex (N : Nat) (s : List UInt8) (m : Int) (hs : s.length ≤ 1048576) (hN : 1048577 < N) : ∃ line col : Nat, m_spec_LineCol N s m = some ((line : Int), (col : Int)) ∧ m_impl_LineCol N s m = some ((line : Int), (col : Int)) ∧ line ≤ 2000000 ∧ col ≤ 2000000 := by
  obtain ⟨r, h1, h2⟩ := linecol_same N s m hs hN
  have key : ∃ line col : Nat, m_spec_LineCol N s m = some ((line : Int), (col : Int)) ∧ line ≤ 2000000 ∧ col ≤ 2000000 := by
    unfold m_spec_LineCol m_spec_l1In
    by_cases h : 0 ≤ m ∧ m ≤ s.length
    · obtain ⟨m, rfl⟩ := Int.eq_ofNat_of_zero_le h.1
      have hm : m ≤ s.length := by omega
      have g1 : decide ((m : Int) ≥ 0) = true := by simp
      have g2 : decide ((m : Int) ≤ (s.length : Int)) = true := by simp [hm]
      have h3 := spec_l N s m hm hs N 0 (by omega) (by omega)
      simp only [List.take_zero, List.count_nil, nlG] at h3
      have hl : (s.take m).length = m := by simp; omega
      have hc : (s.take m).count 10 ≤ m := by have := List.count_le_length (a := 10) (l := s.take m); omega
      have hg := nlG_le s m
      refine ⟨1 + (s.take m).count 10, m - nlG s m + 1, ?_, by omega, by omega⟩
      simp only [g1, g2, cond_true, Option.bind_some, Bool.not_true, cond_false]
      refine Eq.trans h3 ?_
      congr 2
      omega
    · refine ⟨0, 0, ?_, by omega, by omega⟩
      by_cases h1 : m ≥ 0
      · have h2 : ¬ m ≤ (s.length : Int) := fun h' => h ⟨h1, h'⟩
        simp [h1, h2]
      · simp [h1]
  obtain ⟨line, col, k1, k2, k3⟩ := key
  rw [k1] at h1
  cases h1
  exact ⟨line, col, k1, h2, k2, k3⟩

end Go.Proofs.Tryd
