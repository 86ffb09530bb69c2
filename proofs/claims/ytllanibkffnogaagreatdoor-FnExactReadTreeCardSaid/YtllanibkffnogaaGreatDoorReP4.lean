/-
  Plain lemmas on the models, part 4.
-/
import Derived.Test.YtllanibkffnogaaGreatDoorReP3
namespace Go.Proofs.Tryz
open Go.Av
set_option maxRecDepth 100000
set_option linter.unusedSimpArgs false
set_option linter.unusedVariables false

theorem and127 (n : Nat) (h : n < 562949953421312) : bits .and .i64 (n : Int) 127 = ((n % 128 : Nat) : Int) := by
  have e : (BitVec.ofInt 64 (n : Int) &&& BitVec.ofInt 64 127).toNat = n % 128 := by
    rw [BitVec.toNat_and, BitVec.ofInt_natCast, BitVec.toNat_ofNat, show BitVec.ofInt 64 127 = BitVec.ofNat 64 127 from rfl, BitVec.toNat_ofNat, Nat.mod_eq_of_lt (by omega : n < 2 ^ 64)]
    exact Nat.and_two_pow_sub_one_eq_mod n 7
  show IntKind.wrap .i64 (((BitVec.ofInt 64 (n : Int) &&& BitVec.ofInt 64 127).toNat : Nat) : Int) = _
  rw [e, wrap64 (by omega) (by omega)]

theorem or128 (m : Nat) (h : m < 128) : bits .or .i64 (m : Int) 128 = ((128 + m : Nat) : Int) := by
  have e : (BitVec.ofInt 64 (m : Int) ||| BitVec.ofInt 64 128).toNat = 128 + m := by
    rw [BitVec.toNat_or, BitVec.ofInt_natCast, BitVec.toNat_ofNat, show BitVec.ofInt 64 128 = BitVec.ofNat 64 128 from rfl, BitVec.toNat_ofNat, Nat.mod_eq_of_lt (by omega : m < 2 ^ 64)]
    have := Nat.two_pow_add_eq_or_of_lt (i := 7) (b := m) (by omega) 1
    rw [show (128 % 2 ^ 64 : Nat) = 2 ^ 7 * 1 from rfl, Nat.or_comm, ← this]
  show IntKind.wrap .i64 (((BitVec.ofInt 64 (m : Int) ||| BitVec.ofInt 64 128).toNat : Nat) : Int) = _
  rw [e, wrap64 (by omega) (by omega)]

theorem var_l (N : Nat) : ∀ (k f f' n : Nat) (acc : List UInt8), n < 128 ^ (k + 1) → n < 562949953421312 → k < f → k < f' → acc.length + k ≤ 1000 →
    ∃ s, m_spec_Var_l1 N f ((n : Int), acc) = some (acc ++ s) ∧ m_impl_Var_l1 N f' ((n : Int), acc) = some (acc ++ s) ∧ s.length ≤ k + 1 := by
  intro k
  induction k with
  | zero =>
    intro f f' n acc hn hb hf hf' ha
    obtain ⟨f, rfl⟩ : ∃ m, f = m + 1 := ⟨f - 1, by omega⟩
    obtain ⟨f', rfl⟩ : ∃ m, f' = m + 1 := ⟨f' - 1, by omega⟩
    have h1 : decide ((n : Int) ≥ 128) = false := by simp; omega
    have h2 : decide ((n : Int) > 127) = false := by simp; omega
    refine ⟨[bytI n], ?_, ?_, by simp⟩
    · rw [m_spec_Var_l1, h1, cond_false, app_some (by simp; omega)]; rfl
    · rw [m_impl_Var_l1, h2, cond_false, app_some (by simp; omega)]; rfl
  | succ k ih =>
    intro f f' n acc hn hb hf hf' ha
    obtain ⟨f, rfl⟩ : ∃ m, f = m + 1 := ⟨f - 1, by omega⟩
    obtain ⟨f', rfl⟩ : ∃ m, f' = m + 1 := ⟨f' - 1, by omega⟩
    by_cases hlt : n < 128
    · have h1 : decide ((n : Int) ≥ 128) = false := by simp; omega
      have h2 : decide ((n : Int) > 127) = false := by simp; omega
      refine ⟨[bytI n], ?_, ?_, by simp⟩
      · rw [m_spec_Var_l1, h1, cond_false, app_some (by simp; omega)]; rfl
      · rw [m_impl_Var_l1, h2, cond_false, app_some (by simp; omega)]; rfl
    · have h1 : decide ((n : Int) ≥ 128) = true := by simp; omega
      have h2 : decide ((n : Int) > 127) = true := by simp; omega
      have e1 : IntKind.wrap .i64 (Int.tdiv (n : Int) 128) = ((n / 128 : Nat) : Int) := by
        rw [show Int.tdiv (n : Int) 128 = ((n / 128 : Nat) : Int) from rfl, wrap64 (by omega) (by omega)]
      have e2 : Int.fdiv (n : Int) (2 ^ (min 7 64)) = ((n / 128 : Nat) : Int) := by
        rw [show ((2 : Int) ^ (min 7 64)) = 128 from rfl, Int.fdiv_eq_ediv_of_nonneg _ (by omega)]; rfl
      have e3 : IntKind.wrap .i64 (128 + Int.tmod (n : Int) 128) = ((128 + n % 128 : Nat) : Int) := by
        rw [show Int.tmod (n : Int) 128 = ((n % 128 : Nat) : Int) from rfl, wrap64 (by omega) (by omega)]; omega
      have e4 : bits .or .i64 (bits .and .i64 (n : Int) 127) 128 = ((128 + n % 128 : Nat) : Int) := by
        rw [and127 n hb, or128 _ (by omega)]
      obtain ⟨s, s1, s2, s3⟩ := ih f f' (n / 128) (acc ++ [bytI ((128 + n % 128 : Nat) : Int)]) (by rw [Nat.div_lt_iff_lt_mul (by omega)]; rw [Nat.pow_succ] at hn; exact hn) (by omega) (by omega) (by omega) (by simp; omega)
      refine ⟨bytI ((128 + n % 128 : Nat) : Int) :: s, ?_, ?_, by simp; omega⟩
      · rw [m_spec_Var_l1, h1, cond_true, e3, app_some (by simp; omega), Option.bind_some, e1, s1]; simp
      · rw [m_impl_Var_l1, h2, cond_true, e4, app_some (by simp; omega), Option.bind_some, e2, s2]; simp

theorem var_is (N : Nat) (hN : 100 < N) (n : Int) : ∃ s, m_spec_Var N n = some s ∧ m_impl_Var N n = some s ∧ s.length ≤ 8 := by
  unfold m_spec_Var m_impl_Var
  rw [l1In_is, within_is]
  by_cases h : 0 ≤ n ∧ n ≤ 562949953421311
  · obtain ⟨m, rfl⟩ := Int.eq_ofNat_of_zero_le h.1
    have d : (decide ((m : Int) ≥ 0) && decide ((m : Int) ≤ 562949953421311)) = true := by simp; omega
    obtain ⟨s, s1, s2, s3⟩ := var_l N 7 N N m [] (by omega) (by omega) (by omega) (by omega) (by simp)
    simp only [d, Option.bind_some, Bool.not_true, cond_false]
    exact ⟨s, s1, s2, s3⟩
  · have d : (decide (n ≥ 0) && decide (n ≤ 562949953421311)) = false := by
      cases hd : (decide (n ≥ 0) && decide (n ≤ 562949953421311)) with
      | false => rfl
      | true => simp only [Bool.and_eq_true, decide_eq_true_eq] at hd; omega
    simp only [d, Option.bind_some, Bool.not_false, cond_true]
    exact ⟨[], rfl, rfl, by simp⟩

theorem show_l (N : Nat) (hN : 100 < N) (a : List SNode) (hl : a.length ≤ 1048576) (hs : ∀ x, x ∈ a → smNode x) : ∀ (k i f f' : Nat) (acc : List UInt8), i + k = a.length → k < f → k < f' → acc.length ≤ 100 + i * 3000000 →
    ∃ s, m_spec_ShowTree_l1 N f (a, acc, (i : Int)) = some s ∧ m_impl_ShowTree_l1 N f' (a, acc, (i : Int)) = some s := by
  intro k
  induction k with
  | zero =>
    intro i f f' acc hi hf hf' ha
    obtain ⟨f, rfl⟩ : ∃ m, f = m + 1 := ⟨f - 1, by omega⟩
    obtain ⟨f', rfl⟩ : ∃ m, f' = m + 1 := ⟨f' - 1, by omega⟩
    have hlt : ¬ i < a.length := by omega
    exact ⟨acc, by rw [m_spec_ShowTree_l1, lt_false hlt, cond_false], by rw [m_impl_ShowTree_l1, lt_false hlt, cond_false]⟩
  | succ k ih =>
    intro i f f' acc hi hf hf' ha
    obtain ⟨f, rfl⟩ : ∃ m, f = m + 1 := ⟨f - 1, by omega⟩
    obtain ⟨f', rfl⟩ : ∃ m, f' = m + 1 := ⟨f' - 1, by omega⟩
    have hlt : i < a.length := by omega
    have hx := ix_nat hlt
    have hsm := hs a[i] (List.getElem_mem hlt)
    unfold smNode at hsm
    obtain ⟨s1, a1, b1, c1⟩ := var_is N hN a[i].Kind
    obtain ⟨s2, a2, b2, c2⟩ := var_is N hN a[i].Op
    obtain ⟨s3, a3, b3, c3⟩ := var_is N hN (a[i].Text.length : Int)
    obtain ⟨s4, a4, b4, c4⟩ := var_is N hN (a[i].Other.length : Int)
    obtain ⟨s5, a5, b5, c5⟩ := var_is N hN (a[i].Kids.length : Int)
    have hm : (9223372036854775807 : Nat) = maxLen := rfl
    have hstep : IntKind.wrap .i64 ((i : Int) + 1) = ((i + 1 : Nat) : Int) := by rw [wrap64 (by omega) (by omega)]; omega
    obtain ⟨s, d1, d2⟩ := ih (i + 1) f f' (acc ++ (s1 ++ (s2 ++ (s3 ++ (a[i].Text ++ (s4 ++ (a[i].Other ++ s5))))))) (by omega) (by omega) (by omega) (by simp only [List.length_append]; omega)
    refine ⟨s, ?_, ?_⟩
    · rw [m_spec_ShowTree_l1, lt_true hlt, cond_true]
      unfold m_spec_l43Text
      simp only [hx, Option.bind_some, a1, a2, a3, a4, a5]
      rw [cat_some (by omega), Option.bind_some, cat_some (by simp only [List.length_append]; omega), Option.bind_some, cat_some (by omega), Option.bind_some, Option.bind_some, cat_some (by simp only [List.length_append]; omega), Option.bind_some,
        cat_some (by omega), Option.bind_some, Option.bind_some, cat_some (by simp only [List.length_append]; omega), Option.bind_some, cat_some (by simp only [List.length_append]; omega), Option.bind_some, hstep]
      simpa only [List.append_assoc] using d1
    · rw [m_impl_ShowTree_l1, lt_true hlt, cond_true]
      simp only [hx, Option.bind_some, b1, b2, b3, b4, b5]
      rw [cat_some (by omega), Option.bind_some, cat_some (by simp only [List.length_append]; omega), Option.bind_some, cat_some (by simp only [List.length_append]; omega), Option.bind_some, cat_some (by simp only [List.length_append]; omega), Option.bind_some,
        cat_some (by simp only [List.length_append]; omega), Option.bind_some, cat_some (by simp only [List.length_append]; omega), Option.bind_some, cat_some (by simp only [List.length_append]; omega), Option.bind_some, hstep]
      simpa only [List.append_assoc] using d2

theorem show_is (N : Nat) (a : List SNode) (hN : 1048577 + 400 < N) (hl : a.length ≤ 1048576) (hs : ∀ x, x ∈ a → smNode x) : ∃ s, m_spec_ShowTree N a = some s ∧ m_impl_ShowTree N a = some s := by
  obtain ⟨b, b1, b2, _⟩ := treeOk_ex N a hN hs
  unfold m_spec_ShowTree m_impl_ShowTree
  rw [b1, b2]
  simp only [Option.bind_some]
  cases b with
  | false => exact ⟨[], rfl, rfl⟩
  | true =>
    obtain ⟨s, s1, s2, s3⟩ := var_is N (by omega) (a.length : Int)
    obtain ⟨r, r1, r2⟩ := show_l N (by omega) a hl hs a.length 0 N N s (by omega) (by omega) (by omega) (by omega)
    simp only [Bool.not_true, cond_false, s1, s2, Option.bind_some]
    exact ⟨r, r1, r2⟩

end Go.Proofs.Tryz
