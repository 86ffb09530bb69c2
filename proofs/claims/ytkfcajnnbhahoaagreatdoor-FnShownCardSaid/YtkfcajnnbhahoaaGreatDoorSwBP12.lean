/-
 Plain lemmas on the models, part 12.
-/
import Derived.Test.YtkfcajnnbhahoaaGreatDoorSwBP11
namespace Go.Proofs.Tryz
open Go.Av
set_option maxRecDepth 100000
set_option linter.unusedSimpArgs false
set_option linter.unusedVariables false

theorem and127 (n : Nat) (h : n < 562949953421312) : bits .and .i64 (n : Int) 127 = ((n % 128 : Nat) : Int) := by
 have e : (BitVec.ofInt 64 (n : Int) &&& BitVec.ofInt 64 127).toNat = n % 128 := by
  rw [BitVec.toNat_and, BitVec.ofInt_natCast, BitVec.toNat_ofNat, show BitVec.ofInt 64 127 = BitVec.ofNat 64 127 from rfl, BitVec.toNat_ofNat, Nat.mod_eq_of_lt (by omega : n < 2 ^ 64)]
  exact Nat.and_two_pow_sub_one_eq_mod n 7
 show IntKind.wrap .i64 (((BitVec.ofInt 64 (n : Int) &&& BitVec.ofInt 64 127).toNat : Nat) : Int) = _
 rw [e, wrap64 (by omega) (by omega)]

theorem or128 (m : Nat) (h : m < 128) : bits .or .i64 (m : Int) 128 = ((128 + m : Nat) : Int) := by
 have e : (BitVec.ofInt 64 (m : Int) ||| BitVec.ofInt 64 128).toNat = 128 + m := by
  rw [BitVec.toNat_or, BitVec.ofInt_natCast, BitVec.toNat_ofNat, show BitVec.ofInt 64 128 = BitVec.ofNat 64 128 from rfl, BitVec.toNat_ofNat, Nat.mod_eq_of_lt (by omega : m < 2 ^ 64)]
  have := Nat.two_pow_add_eq_or_of_lt (i := 7) (b := m) (by omega) 1
  rw [show (128 % 2 ^ 64 : Nat) = 2 ^ 7 * 1 from rfl, Nat.or_comm, ← this]
 show IntKind.wrap .i64 (((BitVec.ofInt 64 (m : Int) ||| BitVec.ofInt 64 128).toNat : Nat) : Int) = _
 rw [e, wrap64 (by omega) (by omega)]

theorem var_l (N : Nat) : ∀ (k f f' n : Nat) (acc : List UInt8), n < 128 ^ (k + 1) → n < 562949953421312 → k < f → k < f' → acc.length + k ≤ 1000 →
  ∃ s, ms_Var_l1 N f ((n : Int), acc) = some (acc ++ s) ∧ mi_Var_l1 N f' ((n : Int), acc) = some (acc ++ s) ∧ s.length ≤ k + 1 := by
 intro k
 induction k with
 | zero =>
  intro f f' n acc hn hb hf hf' ha
  obtain ⟨f, rfl⟩ : ∃ m, f = m + 1 := ⟨f - 1, by omega⟩
  obtain ⟨f', rfl⟩ : ∃ m, f' = m + 1 := ⟨f' - 1, by omega⟩
  have h1 : decide ((n : Int) ≥ 128) = false := by simp; omega
  have h2 : decide ((n : Int) > 127) = false := by simp; omega
  refine ⟨[bytI n], ?_, ?_, by simp⟩
  ·rw [ms_Var_l1, h1, cond_false, app_some (by simp; omega)]; rfl
  ·rw [mi_Var_l1, h2, cond_false, app_some (by simp; omega)]; rfl
 | succ k ih =>
  intro f f' n acc hn hb hf hf' ha
  obtain ⟨f, rfl⟩ : ∃ m, f = m + 1 := ⟨f - 1, by omega⟩
  obtain ⟨f', rfl⟩ : ∃ m, f' = m + 1 := ⟨f' - 1, by omega⟩
  by_cases hlt : n < 128
  ·have h1 : decide ((n : Int) ≥ 128) = false := by simp; omega
   have h2 : decide ((n : Int) > 127) = false := by simp; omega
   refine ⟨[bytI n], ?_, ?_, by simp⟩
   ·rw [ms_Var_l1, h1, cond_false, app_some (by simp; omega)]; rfl
   ·rw [mi_Var_l1, h2, cond_false, app_some (by simp; omega)]; rfl
  ·have h1 : decide ((n : Int) ≥ 128) = true := by simp; omega
   have h2 : decide ((n : Int) > 127) = true := by simp; omega
   have e1 : IntKind.wrap .i64 (Int.tdiv (n : Int) 128) = ((n / 128 : Nat) : Int) := by
    rw [show Int.tdiv (n : Int) 128 = ((n / 128 : Nat) : Int) from rfl, wrap64 (by omega) (by omega)]
   have e2 : Int.fdiv (n : Int) (2 ^ (min 7 64)) = ((n / 128 : Nat) : Int) := by
    rw [show ((2 : Int) ^ (min 7 64)) = 128 from rfl, Int.fdiv_eq_ediv_of_nonneg _ (by omega)]; rfl
   have e3 : IntKind.wrap .i64 (128 + Int.tmod (n : Int) 128) = ((128 + n % 128 : Nat) : Int) := by
    rw [show Int.tmod (n : Int) 128 = ((n % 128 : Nat) : Int) from rfl, wrap64 (by omega) (by omega)]; omega
   have e4 : bits .or .i64 (bits .and .i64 (n : Int) 127) 128 = ((128 + n % 128 : Nat) : Int) := by
    rw [and127 n hb, or128 _ (by omega)]
   obtain ⟨s, s1, s2, s3⟩ := ih f f' (n / 128) (acc ++ [bytI ((128 + n % 128 : Nat) : Int)]) (by rw [Nat.div_lt_iff_lt_mul (by omega)]; rw [Nat.pow_succ] at hn; exact hn) (by omega) (by omega) (by omega) (by simp; omega)
   refine ⟨bytI ((128 + n % 128 : Nat) : Int) :: s, ?_, ?_, by simp; omega⟩
   ·rw [ms_Var_l1, h1, cond_true, e3, app_some (by simp; omega), Option.bind_some, e1, s1]; simp
   ·rw [mi_Var_l1, h2, cond_true, e4, app_some (by simp; omega), Option.bind_some, e2, s2]; simp

theorem var_is (N : Nat) (hN : 100 < N) (n : Int) : ∃ s, ms_Var N n = some s ∧ mi_Var N n = some s ∧ s.length ≤ 8 := by
 unfold ms_Var mi_Var
 rw [l1In_is, within_is]
 by_cases h : 0 ≤ n ∧ n ≤ 562949953421311
 ·obtain ⟨m, rfl⟩ := Int.eq_ofNat_of_zero_le h.1
  have d : (decide ((m : Int) ≥ 0) && decide ((m : Int) ≤ 562949953421311)) = true := by simp; omega
  obtain ⟨s, s1, s2, s3⟩ := var_l N 7 N N m [] (by omega) (by omega) (by omega) (by omega) (by simp)
  simp only [d, Option.bind_some, Bool.not_true, cond_false]
  exact ⟨s, s1, s2, s3⟩
 ·have d : (decide (n ≥ 0) && decide (n ≤ 562949953421311)) = false := by
   cases hd : (decide (n ≥ 0) && decide (n ≤ 562949953421311)) with
   | false => rfl
   | true => simp only [Bool.and_eq_true, decide_eq_true_eq] at hd; omega
  simp only [d, Option.bind_some, Bool.not_false, cond_true]
  exact ⟨[], rfl, rfl, by simp⟩

theorem show_l (N : Nat) (hN : 100 < N) (a : List SNode) (hl : a.length ≤ 1048576) (hs : ∀ x, x ∈ a → smNode x) : ∀ (k i f f' : Nat) (acc : List UInt8), i + k = a.length → k < f → k < f' → acc.length ≤ 100 + i * 3000000 →
  ∃ s, ms_ShowTree_l1 N f (a, acc, (i : Int)) = some s ∧ mi_ShowTree_l1 N f' (a, acc, (i : Int)) = some s := by
 intro k
 induction k with
 | zero =>
  intro i f f' acc hi hf hf' ha
  obtain ⟨f, rfl⟩ : ∃ m, f = m + 1 := ⟨f - 1, by omega⟩
  obtain ⟨f', rfl⟩ : ∃ m, f' = m + 1 := ⟨f' - 1, by omega⟩
  have hlt : ¬ i < a.length := by omega
  exact ⟨acc, by rw [ms_ShowTree_l1, lt_false hlt, cond_false], by rw [mi_ShowTree_l1, lt_false hlt, cond_false]⟩
 | succ k ih =>
  intro i f f' acc hi hf hf' ha
  obtain ⟨f, rfl⟩ : ∃ m, f = m + 1 := ⟨f - 1, by omega⟩
  obtain ⟨f', rfl⟩ : ∃ m, f' = m + 1 := ⟨f' - 1, by omega⟩
  have hlt : i < a.length := by omega
  have hx := ix_nat hlt
  have hsm := hs a[i] (List.getElem_mem hlt)
  unfold smNode at hsm
  obtain ⟨s1, a1, b1, c1⟩ := var_is N hN a[i].Kind
  obtain ⟨s2, a2, b2, c2⟩ := var_is N hN a[i].Op
  obtain ⟨s3, a3, b3, c3⟩ := var_is N hN (a[i].Text.length : Int)
  obtain ⟨s4, a4, b4, c4⟩ := var_is N hN (a[i].Other.length : Int)
  obtain ⟨s5, a5, b5, c5⟩ := var_is N hN (a[i].Kids.length : Int)
  have hm : (9223372036854775807 : Nat) = maxLen := rfl
  have hstep : IntKind.wrap .i64 ((i : Int) + 1) = ((i + 1 : Nat) : Int) := by rw [wrap64 (by omega) (by omega)]; omega
  obtain ⟨s, d1, d2⟩ := ih (i + 1) f f' (acc ++ (s1 ++ (s2 ++ (s3 ++ (a[i].Text ++ (s4 ++ (a[i].Other ++ s5))))))) (by omega) (by omega) (by omega) (by simp only [List.length_append]; omega)
  refine ⟨s, ?_, ?_⟩
  ·rw [ms_ShowTree_l1, lt_true hlt, cond_true]
   unfold ms_l43Text
   simp only [hx, Option.bind_some, a1, a2, a3, a4, a5]
   rw [cat_some (by omega), Option.bind_some, cat_some (by simp only [List.length_append]; omega), Option.bind_some, cat_some (by omega), Option.bind_some, Option.bind_some, cat_some (by simp only [List.length_append]; omega), Option.bind_some,
    cat_some (by omega), Option.bind_some, Option.bind_some, cat_some (by simp only [List.length_append]; omega), Option.bind_some, cat_some (by simp only [List.length_append]; omega), Option.bind_some, hstep]
   simpa only [List.append_assoc] using d1
  ·rw [mi_ShowTree_l1, lt_true hlt, cond_true]
   simp only [hx, Option.bind_some, b1, b2, b3, b4, b5]
   rw [cat_some (by omega), Option.bind_some, cat_some (by simp only [List.length_append]; omega), Option.bind_some, cat_some (by simp only [List.length_append]; omega), Option.bind_some, cat_some (by simp only [List.length_append]; omega), Option.bind_some,
    cat_some (by simp only [List.length_append]; omega), Option.bind_some, cat_some (by simp only [List.length_append]; omega), Option.bind_some, cat_some (by simp only [List.length_append]; omega), Option.bind_some, hstep]
   simpa only [List.append_assoc] using d2

theorem show_is (N : Nat) (a : List SNode) (hN : 1048577 + 400 < N) (hl : a.length ≤ 1048576) (hs : ∀ x, x ∈ a → smNode x) : ∃ s, ms_ShowTree N a = some s ∧ mi_ShowTree N a = some s := by
 obtain ⟨b, b1, b2, _⟩ := treeOk_ex N a hN hs
 unfold ms_ShowTree mi_ShowTree
 rw [b1, b2]
 simp only [Option.bind_some]
 cases b with
 | false => exact ⟨[], rfl, rfl⟩
 | true =>
  obtain ⟨s, s1, s2, s3⟩ := var_is N (by omega) (a.length : Int)
  obtain ⟨r, r1, r2⟩ := show_l N (by omega) a hl hs a.length 0 N N s (by omega) (by omega) (by omega) (by omega)
  simp only [Bool.not_true, cond_false, s1, s2, Option.bind_some]
  exact ⟨r, r1, r2⟩

def dig : List UInt8 → Nat
 | [] => 0
 | b :: r => b.toNat % 128 + 128 * dig r

def vlF : Nat → Nat → List UInt8
 | 0, n => [bytI (n : Int)]
 | k + 1, n => if n < 128 then [bytI (n : Int)] else bytI ((128 + n % 128 : Nat) : Int) :: vlF k (n / 128)

def okV : Bool → List UInt8 → Bool
 | _, [] => false
 | first, [b] => decide (b.toNat < 128) && (first || decide (b.toNat ≠ 0))
 | _, b :: c :: r => decide (128 ≤ b.toNat) && okV false (c :: r)

theorem bytI_nat (n : Nat) (h : n < 256) : (bytI (n : Int)).toNat = n := by
 unfold bytI
 rw [show IntKind.wrap .u8 (n : Int) = (n : Int) by
  simp only [IntKind.wrap, IntKind.bits, IntKind.signed, Bool.false_and, Bool.false_eq_true, if_false]
  omega]
 rw [UInt8.toNat_ofNat']
 omega

theorem bytI_eq (n : Nat) (h : n < 256) (b : UInt8) : bytI (n : Int) = b ↔ b.toNat = n := by
 constructor
 ·intro e; rw [← e, bytI_nat n h]
 ·intro e
  apply UInt8.toNat_inj.1
  rw [bytI_nat n h, e]

theorem dig_lt : ∀ l : List UInt8, dig l < 128 ^ l.length
 | [] => by simp [dig]
 | b :: r => by
  have := dig_lt r
  rw [dig, List.length_cons, Nat.pow_succ]
  have : b.toNat % 128 < 128 := Nat.mod_lt _ (by omega)
  omega

theorem vlF_len : ∀ (k n : Nat), 1 ≤ (vlF k n).length ∧ (vlF k n).length ≤ k + 1
 | 0, n => by simp [vlF]
 | k + 1, n => by
  rw [vlF]
  split
  ·simp
  ·have := vlF_len k (n / 128)
   simp only [List.length_cons]; omega

theorem vl_ok : ∀ (l : List UInt8) (first : Bool) (k : Nat), l.length ≤ k + 1 → ((l ≠ [] ∧ vlF k (dig l) = l ∧ (first = true ∨ dig l ≠ 0)) ↔ okV first l = true)
 | [], first, k, _ => by simp [okV]
 | [b], first, k, _ => by
  have hb := UInt8.toNat_lt b
  have hd : dig [b] = b.toNat % 128 := by simp [dig]
  have hlt : b.toNat % 128 < 128 := Nat.mod_lt _ (by omega)
  have hv : vlF k (dig [b]) = [bytI ((b.toNat % 128 : Nat) : Int)] := by
   rw [hd]
   cases k with
   | zero => rfl
   | succ k => rw [vlF, if_pos hlt]
  rw [hv, hd]
  simp only [okV, Bool.and_eq_true, Bool.or_eq_true, decide_eq_true_eq, List.cons.injEq, and_true, bytI_eq _ (show b.toNat % 128 < 256 by omega)]
  constructor
  ·rintro ⟨_, h1, h2⟩
   exact ⟨by omega, h2.imp id fun h => by omega⟩
  ·rintro ⟨h1, h2⟩
   exact ⟨by simp, by omega, h2.imp id fun h => by omega⟩
 | b :: c :: r, first, k, hl => by
  have hb := UInt8.toNat_lt b
  have hlt : b.toNat % 128 < 128 := Nat.mod_lt _ (by omega)
  simp only [List.length_cons] at hl
  obtain ⟨k, rfl⟩ : ∃ m, k = m + 1 := ⟨k - 1, by omega⟩
  have ih := vl_ok (c :: r) false k (by simp only [List.length_cons]; omega)
  have hd : dig (b :: c :: r) = b.toNat % 128 + 128 * dig (c :: r) := rfl
  simp only [okV, Bool.and_eq_true, decide_eq_true_eq, ← ih, Bool.false_eq_true, false_or]
  rw [hd]
  generalize dig (c :: r) = D
  by_cases h0 : D = 0
  ·subst h0
   rw [vlF, if_pos (by omega)]
   simp
  ·rw [vlF, if_neg (by omega)]
   rw [show (b.toNat % 128 + 128 * D) % 128 = b.toNat % 128 by omega, show (b.toNat % 128 + 128 * D) / 128 = D by omega]
   simp only [List.cons.injEq, bytI_eq _ (show 128 + b.toNat % 128 < 256 by omega)]
   constructor
   ·rintro ⟨_, ⟨h1, h2⟩, _⟩
    exact ⟨by omega, by simp, h2, h0⟩
   ·rintro ⟨h1, _, h2, _⟩
    exact ⟨by simp, ⟨by omega, h2⟩, .inr (by omega)⟩

def rd : Nat → Bool → List UInt8 → Option (Nat × Nat)
 | 0, _, _ => none
 | _ + 1, _, [] => none
 | f + 1, first, b :: r => if b.toNat < 128 then (if first = false ∧ b.toNat = 0 then none else some (b.toNat, 1)) else (rd f false r).map fun x => (b.toNat % 128 + 128 * x.1, x.2 + 1)

theorem rd_spec : ∀ (f : Nat) (first : Bool) (l : List UInt8) (n k : Nat), rd f first l = some (n, k) → 1 ≤ k ∧ k ≤ f ∧ k ≤ l.length ∧ n = dig (l.take k)
 | 0, first, l, n, k, h => by cases h
 | f + 1, first, [], n, k, h => by cases h
 | f + 1, first, b :: r, n, k, h => by
  rw [rd] at h
  split at h
  ·rename_i hb
   split at h
   ·cases h
   ·cases h
    refine ⟨by omega, by omega, by simp, ?_⟩
    simp [dig]
    omega
  ·obtain ⟨⟨n', k'⟩, h1, h2⟩ := Option.map_eq_some_iff.1 h
   cases h2
   obtain ⟨g1, g2, g3, g4⟩ := rd_spec f false r n' k' h1
   refine ⟨by omega, by omega, by simp only [List.length_cons]; omega, ?_⟩
   simp only [List.take_succ_cons, dig, g4]

theorem rd_ok : ∀ (f : Nat) (first : Bool) (l : List UInt8) (k : Nat), 1 ≤ k → k ≤ f → k ≤ l.length → (okV first (l.take k) = true ↔ rd f first l = some (dig (l.take k), k))
 | 0, first, l, k, h1, h2, _ => by omega
 | f + 1, first, [], k, h1, _, h3 => by simp at h3; omega
 | f + 1, first, b :: r, 1, _, _, _ => by
  rw [rd]
  simp only [List.take_succ_cons, List.take_zero, okV, Bool.and_eq_true, Bool.or_eq_true, decide_eq_true_eq]
  have hd : dig [b] = b.toNat % 128 := by simp [dig]
  rw [hd]
  by_cases hb : b.toNat < 128
  ·rw [if_pos hb]
   by_cases h0 : first = false ∧ b.toNat = 0
   ·rw [if_pos h0]
    obtain ⟨rfl, h0⟩ := h0
    simp [h0]
   ·rw [if_neg h0]
    constructor
    ·rintro _
     rw [Nat.mod_eq_of_lt hb]
    ·rintro _
     refine ⟨hb, ?_⟩
     cases first with
     | true => exact .inl rfl
     | false => exact .inr fun h => h0 ⟨rfl, h⟩
  ·rw [if_neg hb]
   constructor
   ·rintro ⟨h, _⟩; exact absurd h hb
   ·intro h
    obtain ⟨⟨n', k'⟩, h1, h2⟩ := Option.map_eq_some_iff.1 h
    have := (rd_spec f false r n' k' h1).1
    injection h2 with _ h2
    omega
 | f + 1, first, b :: r, k + 2, _, h2, h3 => by
  simp only [List.length_cons] at h3
  cases r with
  | nil => simp at h3
  | cons c r =>
   rw [rd]
   have ih := rd_ok f false (c :: r) (k + 1) (by omega) (by omega) (by simp only [List.length_cons] at h3 ⊢; omega)
   simp only [List.take_succ_cons] at ih ⊢
   simp only [okV, Bool.and_eq_true, decide_eq_true_eq, ih]
   by_cases hb : b.toNat < 128
   ·rw [if_pos hb]
    constructor
    ·rintro ⟨h, _⟩; omega
    ·intro h
     split at h
     ·cases h
     ·injection h with h; injection h with _ h; omega
   ·rw [if_neg hb]
    constructor
    ·rintro ⟨_, h⟩
     rw [h]
     simp [dig]
    ·intro h
     refine ⟨by omega, ?_⟩
     obtain ⟨⟨n', k'⟩, h1, h2⟩ := Option.map_eq_some_iff.1 h
     injection h2 with e1 e2
     have e2 : k' = k + 1 := by omega
     subst e2
     have := (rd_spec f false _ n' (k + 1) h1).2.2.2
     rw [h1]
     simp only [List.take_succ_cons] at this
     rw [this]

def rdP (l : List UInt8) : Int × Int := match rd 7 true l with
 | none => (0, 0)
 | some x => ((x.1 : Int), (x.2 : Int))

theorem var_l2 (N : Nat) : ∀ (k f n : Nat) (acc : List UInt8), n < 128 ^ (k + 1) → n < 562949953421312 → k < f → acc.length + k ≤ 1000 →
  ms_Var_l1 N f ((n : Int), acc) = some (acc ++ vlF k n) := by
 intro k
 induction k with
 | zero =>
  intro f n acc hn hb hf ha
  obtain ⟨f, rfl⟩ : ∃ m, f = m + 1 := ⟨f - 1, by omega⟩
  have h1 : decide ((n : Int) ≥ 128) = false := by simp; omega
  rw [ms_Var_l1, h1, cond_false, app_some (by simp; omega)]; rfl
 | succ k ih =>
  intro f n acc hn hb hf ha
  obtain ⟨f, rfl⟩ : ∃ m, f = m + 1 := ⟨f - 1, by omega⟩
  by_cases hlt : n < 128
  ·have h1 : decide ((n : Int) ≥ 128) = false := by simp; omega
   rw [ms_Var_l1, h1, cond_false, app_some (by simp; omega), vlF, if_pos hlt]; rfl
  ·have h1 : decide ((n : Int) ≥ 128) = true := by simp; omega
   have e1 : IntKind.wrap .i64 (Int.tdiv (n : Int) 128) = ((n / 128 : Nat) : Int) := by
    rw [show Int.tdiv (n : Int) 128 = ((n / 128 : Nat) : Int) from rfl, wrap64 (by omega) (by omega)]
   have e3 : IntKind.wrap .i64 (128 + Int.tmod (n : Int) 128) = ((128 + n % 128 : Nat) : Int) := by
    rw [show Int.tmod (n : Int) 128 = ((n % 128 : Nat) : Int) from rfl, wrap64 (by omega) (by omega)]; omega
   rw [ms_Var_l1, h1, cond_true, e3, app_some (by simp; omega), Option.bind_some, e1, ih f (n / 128) _ (by rw [Nat.div_lt_iff_lt_mul (by omega)]; rw [Nat.pow_succ] at hn; exact hn) (by omega) (by omega) (by simp; omega), vlF, if_neg hlt]
   simp

theorem var_vl (N : Nat) (hN : 100 < N) (n : Nat) (hn : n < 562949953421312) : ms_Var N (n : Int) = some (vlF 7 n) := by
 unfold ms_Var
 rw [l1In_is]
 have d : (decide ((n : Int) ≥ 0) && decide ((n : Int) ≤ 562949953421311)) = true := by simp; omega
 simp only [d, Option.bind_some, Bool.not_true, cond_false]
 exact var_l2 N 7 N n [] (by omega) hn (by omega) (by simp)

theorem dig_app : ∀ (a b : List UInt8), dig (a ++ b) = dig a + 128 ^ a.length * dig b
 | [], b => by simp [dig]
 | x :: a, b => by
  rw [List.cons_append, dig, dig, dig_app a b, List.length_cons, Nat.pow_succ, Nat.mul_add, Nat.mul_comm (128 ^ a.length) 128, Nat.mul_assoc]
  omega

theorem srv_l2 (N : Nat) (kb : (List UInt8 × Int) → Option (Int × Int)) (s : List UInt8) (k : Nat) (hk1 : 1 ≤ k) (hk : k ≤ 7) (hks : k ≤ s.length) (hN : 100 < N) : ∀ (f j : Nat), j < f → j ≤ k →
  ms_ReadVar_l2 N kb f (s, (k : Int), (dig ((s.take k).drop j) : Int), (j : Int) - 1) = if vlF 7 (dig (s.take k)) = s.take k then some ((dig (s.take k) : Int), (k : Int)) else kb (s, ((k + 1 : Nat) : Int)) := by
 intro f
 have hall : ∀ l : List UInt8, l.length ≤ 7 → dig l < 562949953421312 := fun l hl => by
  have h1 := dig_lt l
  have h2 : 128 ^ l.length ≤ 128 ^ 7 := Nat.pow_le_pow_right (by omega) hl
  have : (128 : Nat) ^ 7 = 562949953421312 := by decide
  omega
 induction f with
 | zero => intro j h; omega
 | succ f ih =>
  intro j hf hj
  rw [ms_ReadVar_l2]
  cases j with
  | zero =>
   have hd : decide ((((0 : Nat) : Int) - 1) ≥ 0) = false := by simp
   have htl : (s.take k).length ≤ 7 := by simp; omega
   rw [hd, cond_false, List.drop_zero, var_vl N hN _ (hall _ htl), Option.bind_some, show (0 : Int) = ((0 : Nat) : Int) from rfl, cut_nat (by omega) hks, Option.bind_some, List.drop_zero, Nat.sub_zero]
   by_cases he : vlF 7 (dig (s.take k)) = s.take k
   ·have hb : (vlF 7 (dig (s.take k)) == s.take k) = true := by simpa using he
    rw [hb, cond_true, if_pos he]
   ·have hb : (vlF 7 (dig (s.take k)) == s.take k) = false := by simpa using he
    rw [hb, cond_false, if_neg he, wrap64 (by omega) (by omega)]
    rfl
  | succ j =>
   have hjs : j < s.length := by omega
   have hjt : j < (s.take k).length := by simp; omega
   have hd : decide ((((j + 1 : Nat) : Int) - 1) ≥ 0) = true := by simp
   have hlen : ((s.take k).drop (j + 1)).length ≤ 6 := by simp; omega
   have hl2 : dig ((s.take k).drop (j + 1)) < 4398046511104 := by
    have h1 := dig_lt ((s.take k).drop (j + 1))
    have h2 : 128 ^ ((s.take k).drop (j + 1)).length ≤ 128 ^ 6 := Nat.pow_le_pow_right (by omega) hlen
    have : (128 : Nat) ^ 6 = 4398046511104 := by decide
    omega
   have hb := UInt8.toNat_lt s[j]
   rw [hd, cond_true, show (((j + 1 : Nat) : Int) - 1) = (j : Int) by omega, ix_nat hjs, Option.bind_some, wrap64 (n := ((dig ((s.take k).drop (j + 1)) : Nat) : Int) * 128) (by omega) (by omega), wrap64 (n := ((s[j].toNat : Nat) : Int)) (by omega) (by omega)]
   rw [show Int.tmod ((s[j].toNat : Nat) : Int) 128 = ((s[j].toNat % 128 : Nat) : Int) from rfl, wrap64 (n := (j : Int) - 1) (by omega) (by omega)]
   have hdr : (s.take k).drop j = s[j] :: (s.take k).drop (j + 1) := by
    rw [List.drop_eq_getElem_cons hjt, List.getElem_take]
   have he : IntKind.wrap .i64 ((dig ((s.take k).drop (j + 1)) : Int) * 128 + ((s[j].toNat % 128 : Nat) : Int)) = (dig ((s.take k).drop j) : Int) := by
    rw [hdr, dig, wrap64 (by omega) (by omega)]
    omega
   rw [he]
   exact ih j (by omega) (by omega)

theorem srv_l1 (N : Nat) (s : List UInt8) (hN : 100 < N) : ∀ (f k : Nat), 8 - k < f → 1 ≤ k → k ≤ 8 → (∀ j, 1 ≤ j → j < k → j ≤ s.length → okV true (s.take j) = false) → ms_ReadVar_l1 N f (s, (k : Int)) = some (rdP s) := by
 intro f
 induction f with
 | zero => intro k h; omega
 | succ f ih =>
  intro k hf h1 h8 hno
  rw [ms_ReadVar_l1]
  by_cases hk : k ≤ 7 ∧ k ≤ s.length
  ·have d1 : decide ((k : Int) ≤ 7) = true := by simp; omega
   have d2 : decide ((k : Int) ≤ (s.length : Int)) = true := by simp; omega
   rw [d1, d2]
   simp only [cond_true, Option.bind_some]
   have := srv_l2 N (ms_ReadVar_l1 N f) s k h1 hk.1 hk.2 hN N k (by omega) (Nat.le_refl _)
   rw [show (s.take k).drop k = [] by simp] at this
   rw [wrap64 (by omega) (by omega)]
   refine Eq.trans this ?_
   have hl : (s.take k).length ≤ 7 + 1 := by simp; omega
   have hne : s.take k ≠ [] := by intro h; have := congrArg List.length h; rw [List.length_take, List.length_nil] at this; omega
   have hv := vl_ok (s.take k) true 7 hl
   have hr := rd_ok 7 true s k h1 hk.1 hk.2
   by_cases he : vlF 7 (dig (s.take k)) = s.take k
   ·rw [if_pos he]
    have := hr.1 (hv.1 ⟨hne, he, .inl rfl⟩)
    unfold rdP
    rw [this]
   ·rw [if_neg he]
    refine ih (k + 1) (by omega) (by omega) (by omega) fun j j1 j2 j3 => ?_
    by_cases hjk : j = k
    ·subst hjk
     cases ho : okV true (s.take j) with
     | false => rfl
     | true => exact absurd (hv.2 ho).2.1 he
    ·exact hno j j1 (by omega) j3
  ·have d : (bif decide ((k : Int) ≤ 7) then some (decide ((k : Int) ≤ (s.length : Int))) else some false) = some false := by
    by_cases h7 : k ≤ 7
    ·have d1 : decide ((k : Int) ≤ 7) = true := by simp; omega
     have d2 : decide ((k : Int) ≤ (s.length : Int)) = false := by simp; omega
     rw [d1, d2]; rfl
    ·have d1 : decide ((k : Int) ≤ 7) = false := by simp; omega
     rw [d1]; rfl
   rw [d]
   simp only [Option.bind_some, cond_false]
   unfold rdP
   cases hr : rd 7 true s with
   | none => rfl
   | some x =>
    obtain ⟨g1, g2, g3, g4⟩ := rd_spec 7 true s x.1 x.2 hr
    have := hno x.2 g1 (by omega) g3
    rw [(rd_ok 7 true s x.2 g1 g2 g3).2 (by rw [hr, ← g4])] at this
    cases this

theorem readVar_spec (N : Nat) (s : List UInt8) (hN : 100 < N) : ms_ReadVar N s = some (rdP s) := by
 unfold ms_ReadVar
 exact srv_l1 N s hN N 1 (by omega) (by omega) (by omega) fun j j1 j2 => by omega

theorem and127b (b : UInt8) : bits .and .u8 ((b.toNat : Nat) : Int) 127 = ((b.toNat % 128 : Nat) : Int) := by
 have hb := UInt8.toNat_lt b
 have e : (BitVec.ofInt 8 ((b.toNat : Nat) : Int) &&& BitVec.ofInt 8 127).toNat = b.toNat % 128 := by
  rw [BitVec.toNat_and, BitVec.ofInt_natCast, BitVec.toNat_ofNat, show BitVec.ofInt 8 127 = BitVec.ofNat 8 127 from rfl, BitVec.toNat_ofNat, Nat.mod_eq_of_lt (by omega : b.toNat < 2 ^ 8)]
  exact Nat.and_two_pow_sub_one_eq_mod b.toNat 7
 show IntKind.wrap .u8 (((BitVec.ofInt 8 ((b.toNat : Nat) : Int) &&& BitVec.ofInt 8 127).toNat : Nat) : Int) = _
 rw [e]
 simp only [IntKind.wrap, IntKind.bits, IntKind.signed, Bool.false_and, Bool.false_eq_true, if_false]
 omega

theorem or_add (i a n : Nat) (hn : n < 2 ^ i) (h : n + 2 ^ i * a < 9223372036854775808) : bits .or .i64 (n : Int) ((2 ^ i * a : Nat) : Int) = ((n + 2 ^ i * a : Nat) : Int) := by
 have e : (BitVec.ofInt 64 (n : Int) ||| BitVec.ofInt 64 ((2 ^ i * a : Nat) : Int)).toNat = n + 2 ^ i * a := by
  rw [BitVec.toNat_or, BitVec.ofInt_natCast, BitVec.toNat_ofNat, BitVec.ofInt_natCast, BitVec.toNat_ofNat, Nat.mod_eq_of_lt (by omega), Nat.mod_eq_of_lt (by omega), Nat.or_comm, ← Nat.two_pow_add_eq_or_of_lt hn, Nat.add_comm]
 show IntKind.wrap .i64 (((BitVec.ofInt 64 (n : Int) ||| BitVec.ofInt 64 ((2 ^ i * a : Nat) : Int)).toNat : Nat) : Int) = _
 rw [e, wrap64 (by omega) (by omega)]

theorem irv_l2 (N : Nat) (s : List UInt8) : ∀ (f j : Nat), 7 - j < f → j ≤ 7 → j ≤ s.length →
  mi_ReadVar_l2 N f (s, (dig (s.take j) : Int), (j : Int)) = match rd (7 - j) (decide (j = 0)) (s.drop j) with
   | none => some (0, 0)
   | some x => some (((dig (s.take j) + 128 ^ j * x.1 : Nat) : Int), ((j + x.2 : Nat) : Int)) := by
 intro f
 induction f with
 | zero => intro j h; omega
 | succ f ih =>
  intro j hf hj hjs
  rw [mi_ReadVar_l2]
  have hmin : (if 7 < (s.length : Int) then (7 : Int) else (s.length : Int)) = ((min 7 s.length : Nat) : Int) := by
   split <;> omega
  rw [hmin]
  by_cases h : j < 7 ∧ j < s.length
  ·have d1 : decide ((j : Int) < ((min 7 s.length : Nat) : Int)) = true := by simp; omega
   have hb := UInt8.toNat_lt s[j]
   have hdl : (s.take j).length = j := by simp; omega
   have hdg := dig_lt (s.take j)
   rw [hdl] at hdg
   have h128 : (128 : Nat) ^ j = 2 ^ (7 * j) := by rw [Nat.pow_mul]
   have hpow : (128 : Nat) ^ j ≤ 128 ^ 6 := Nat.pow_le_pow_right (by omega) (by omega)
   have h6 : (128 : Nat) ^ 6 = 4398046511104 := by decide
   have hx : shlO .i64 (IntKind.wrap .i64 (bits .and .u8 ((s[j].toNat : Nat) : Int) 127)) (IntKind.wrap .u64 (IntKind.wrap .i64 (7 * (j : Int)))) = some (((2 ^ (7 * j) * (s[j].toNat % 128) : Nat)) : Int) := by
    rw [and127b, wrap64 (n := ((s[j].toNat % 128 : Nat) : Int)) (by omega) (by omega), wrap64 (n := 7 * (j : Int)) (by omega) (by omega)]
    have hu : IntKind.wrap .u64 (7 * (j : Int)) = ((7 * j : Nat) : Int) := by
     simp only [IntKind.wrap, IntKind.bits, IntKind.signed, Bool.false_and, Bool.false_eq_true, if_false]
     omega
    rw [hu]
    unfold shlO
    have hneg : decide (((7 * j : Nat) : Int) < 0) = false := by simp; omega
    rw [hneg, cond_false, Int.toNat_natCast, show min (7 * j) IntKind.i64.bits = 7 * j by simp only [IntKind.bits]; omega]
    have hm : ((s[j].toNat % 128 : Nat) : Int) * 2 ^ (7 * j) = ((2 ^ (7 * j) * (s[j].toNat % 128) : Nat) : Int) := by
     rw [Int.natCast_mul, Int.natCast_pow, Int.mul_comm]; rfl
    rw [hm]
    have hle : 2 ^ (7 * j) * (s[j].toNat % 128) ≤ 4398046511104 * 128 := by
     rw [← h128, ← h6]
     exact Nat.mul_le_mul hpow (by have := Nat.mod_lt s[j].toNat (show 128 > 0 by omega); omega)
    rw [wrap64 (by omega) (by omega)]
   have hle : 2 ^ (7 * j) * (s[j].toNat % 128) ≤ 4398046511104 * 128 := by
    rw [← h128, ← h6]
    exact Nat.mul_le_mul hpow (by have := Nat.mod_lt s[j].toNat (show 128 > 0 by omega); omega)
   have hor : bits .or .i64 ((dig (s.take j) : Nat) : Int) ((2 ^ (7 * j) * (s[j].toNat % 128) : Nat) : Int) = ((dig (s.take (j + 1)) : Nat) : Int) := by
    rw [or_add _ _ _ (by rw [← h128]; exact hdg) (by omega)]
    rw [List.take_add_one, List.getElem?_eq_getElem h.2]
    simp only [Option.toList_some]
    rw [dig_app, hdl, h128]
    simp [dig]
   rw [d1, cond_true, ix_nat h.2, Option.bind_some, hx, Option.bind_some, Option.bind_some, hor]
   rw [drop_cons h.2, show 7 - j = (6 - j) + 1 by omega, rd]
   by_cases hlow : s[j].toNat < 128
   ·have d2 : decide (((s[j].toNat : Nat) : Int) < 128) = true := by simp; omega
    rw [d2, cond_true, if_pos hlow]
    have hdg2 : dig (s.take (j + 1)) = dig (s.take j) + 128 ^ j * s[j].toNat := by
     rw [List.take_add_one, List.getElem?_eq_getElem h.2]
     simp only [Option.toList_some]
     rw [dig_app, hdl]
     simp [dig]
     rw [Nat.mod_eq_of_lt hlow]
    by_cases hj0 : j = 0
    ·subst hj0
     have d3 : decide (((0 : Nat) : Int) > 0) = false := by simp
     rw [d3]
     simp only [cond_false, Option.bind_some, decide_true, Bool.true_eq_false, false_and, if_false, hdg2]
     rfl
    ·have d3 : decide ((j : Int) > 0) = true := by simp; omega
     have d4 : decide (j = 0) = false := by simpa using hj0
     rw [d3, d4]
     simp only [cond_true, Option.bind_some, true_and]
     by_cases hz : s[j].toNat = 0
     ·have d5 : (((s[j].toNat : Nat) : Int) == 0) = true := by simp; omega
      rw [d5, cond_true, if_pos hz]
      rfl
     ·have d5 : (((s[j].toNat : Nat) : Int) == 0) = false := by simp; omega
      rw [d5, cond_false, if_neg hz, wrap64 (by omega) (by omega), hdg2]
      rfl
   ·have d2 : decide (((s[j].toNat : Nat) : Int) < 128) = false := by simp; omega
    rw [d2, cond_false, if_neg hlow, wrap64 (by omega) (by omega)]
    have := ih (j + 1) (by omega) (by omega) (by omega)
    refine Eq.trans this ?_
    rw [show decide (j + 1 = 0) = false by simp, show 7 - (j + 1) = 6 - j by omega]
    cases hr : rd (6 - j) false (s.drop (j + 1)) with
    | none => rfl
    | some x =>
     simp only [Option.map_some]
     have hdg2 : dig (s.take (j + 1)) = dig (s.take j) + 128 ^ j * (s[j].toNat % 128) := by
      rw [List.take_add_one, List.getElem?_eq_getElem h.2]
      simp only [Option.toList_some]
      rw [dig_app, hdl]
      simp [dig]
     rw [hdg2, Nat.pow_succ, Nat.mul_add, Nat.mul_assoc, Nat.add_assoc, Nat.add_assoc, Nat.add_comm 1]
  ·have d1 : decide ((j : Int) < ((min 7 s.length : Nat) : Int)) = false := by simp; omega
   rw [d1, cond_false]
   have : rd (7 - j) (decide (j = 0)) (s.drop j) = none := by
    by_cases h7 : j < 7
    ·rw [drop_nil (by omega), show 7 - j = (6 - j) + 1 by omega]
     rfl
    ·rw [show 7 - j = 0 by omega]
     rfl
   rw [this]
   rfl

theorem readVar_impl (N : Nat) (s : List UInt8) (hN : 100 < N) : mi_ReadVar N s = some (rdP s) := by
 unfold mi_ReadVar
 have := irv_l2 N s N 0 (by omega) (by omega) (by omega)
 simp only [List.take_zero, dig, List.drop_zero, Nat.sub_zero, decide_true, Nat.zero_add, Nat.pow_zero, Nat.one_mul] at this
 refine Eq.trans this ?_
 unfold rdP
 cases rd 7 true s <;> rfl

theorem rdP_cases (l : List UInt8) : rdP l = (0, 0) ∨ ∃ n k : Nat, rdP l = ((n : Int), (k : Int)) ∧ 1 ≤ k ∧ k ≤ l.length ∧ n < 562949953421312 ∧ vlF 7 n = l.take k := by
 unfold rdP
 cases hr : rd 7 true l with
 | none => exact .inl rfl
 | some x =>
  obtain ⟨g1, g2, g3, g4⟩ := rd_spec 7 true l x.1 x.2 hr
  have hlen : (l.take x.2).length = x.2 := by first | (simp; done) | (simp; omega)
  have hlt := dig_lt (l.take x.2)
  have h2 : 128 ^ (l.take x.2).length ≤ 128 ^ 7 := Nat.pow_le_pow_right (by omega) (by omega)
  have h7 : (128 : Nat) ^ 7 = 562949953421312 := by decide
  have ho := (rd_ok 7 true l x.2 g1 g2 g3).2 (by rw [hr, ← g4])
  have hv := ((vl_ok (l.take x.2) true 7 (by omega)).2 ho).2.1
  exact .inr ⟨x.1, x.2, rfl, g1, g3, by omega, by rw [g4]; exact hv⟩

def RS (s : List UInt8) (at_ : Int) (left : List UInt8) (bad : Bool) : Prop := (bad = true ∧ at_ = -1) ∨ (bad = false ∧ ∃ a : Nat, at_ = (a : Int) ∧ a ≤ s.length ∧ left = s.drop a)

theorem num_impl (N : Nat) (left : List UInt8) (bad : Bool) (hN : 100 < N) : mi_byteReader__number N left bad = some ((rdP left).1, left.drop (rdP left).2.toNat, bad || (rdP left).2 == 0) := by
 unfold mi_byteReader__number
 rw [readVar_impl N left hN, Option.bind_some]
 have hk : ∃ k : Nat, (rdP left).2 = (k : Int) ∧ k ≤ left.length := by
  rcases rdP_cases left with h | ⟨n, k, h, _, h2, _⟩
  ·exact ⟨0, by rw [h]; rfl, by omega⟩
  ·exact ⟨k, by rw [h], h2⟩
 obtain ⟨k, e, hk⟩ := hk
 rw [e, cut_nat hk (Nat.le_refl _), Int.toNat_natCast]
 have : (left.drop k).take (left.length - k) = left.drop k := List.take_of_length_le (by simp)
 rw [this]
 cases bad <;> rfl

theorem numR_ex (N : Nat) (s : List UInt8) (at_ : Int) (left : List UInt8) (bad : Bool) (hN : 100 < N) (hs : s.length ≤ 1048576) (h : RS s at_ left bad) :
  ∃ n1 n2 at' left' bad', ms_l43Num N s at_ = some (n1, at') ∧ mi_byteReader__number N left bad = some (n2, left', bad') ∧ RS s at' left' bad' ∧ 0 ≤ n2 ∧ 0 ≤ n1 ∧ (bad' = true → n1 = 0) ∧ (bad = false → bad' = true → n2 = 0) ∧
   (bad' = false → bad = false ∧ n1 = n2 ∧ n1 < 562949953421312 ∧ ∀ a a' : Nat, at_ = (a : Int) → at' = (a' : Int) → s.take a' = s.take a ++ vlF 7 n1.toNat) := by
 have hi := num_impl N left bad hN
 have hnn : 0 ≤ (rdP left).1 := by
  rcases rdP_cases left with h | ⟨n, k, h, _⟩
  ·rw [h]; simp
  ·rw [h]; simp
 rcases h with ⟨rfl, rfl⟩ | ⟨rfl, a, rfl, ha, rfl⟩
 ·refine ⟨0, _, -1, _, true, rfl, by rw [hi]; rfl, .inl ⟨rfl, rfl⟩, hnn, by omega, fun _ => rfl, (fun h => by cases h), (fun h => by cases h)⟩
 ·have hneg : decide (((a : Nat) : Int) < 0) = false := by first | (simp; done) | (simp; omega)
  have hcut : cut s (a : Int) (s.length : Int) = some (s.drop a) := by
   rw [cut_nat ha (Nat.le_refl _), List.take_of_length_le (by simp)]
  have hsp : ms_l43Num N s (a : Int) = bif ((rdP (s.drop a)).2 == 0) then some (0, (-1)) else some ((rdP (s.drop a)).1, (IntKind.wrap .i64 ((a : Int) + (rdP (s.drop a)).2))) := by
   unfold ms_l43Num
   rw [hneg, cond_false, hcut, Option.bind_some, readVar_spec N _ hN, Option.bind_some]
  rcases rdP_cases (s.drop a) with h | ⟨n, k, h, k1, k2, k3, k4⟩
  ·rw [h] at hi hsp
   exact ⟨0, 0, -1, _, true, hsp, hi, .inl ⟨rfl, rfl⟩, by omega, by omega, fun _ => rfl, fun _ _ => rfl, (fun h => by cases h)⟩
  ·rw [h] at hi hsp
   rw [List.length_drop] at k2
   have hz : (((k : Nat) : Int) == 0) = false := by first | (simp; done) | (simp; omega)
   simp only [hz, cond_false, Bool.or_false] at hi hsp
   rw [wrap64 (by omega) (by omega)] at hsp
   refine ⟨(n : Int), (n : Int), ((a + k : Nat) : Int), _, false, hsp, hi, .inr ⟨rfl, a + k, rfl, by omega, ?_⟩, by omega, by omega, (fun h => by cases h), (fun _ h => by cases h), fun _ => ⟨rfl, rfl, by omega, fun b b' hb hb' => ?_⟩⟩
   ·rw [Int.toNat_natCast, List.drop_drop]
   ·obtain rfl : a = b := by omega
    obtain rfl : b' = a + k := by omega
    rw [Int.toNat_natCast, k4, ← List.take_add]

theorem textR_ex (N : Nat) (s : List UInt8) (at_ : Int) (left : List UInt8) (bad : Bool) (hN : 100 < N) (hs : s.length ≤ 1048576) (h : RS s at_ left bad) :
  ∃ t1 t2 at' left' bad', ms_l43Read N s at_ = some (t1, at') ∧ mi_byteReader__text N left bad = some (t2, left', bad') ∧ RS s at' left' bad' ∧ t1.length ≤ s.length ∧
   (bad' = false → bad = false ∧ t1 = t2 ∧ ∀ a a' : Nat, at_ = (a : Int) → at' = (a' : Int) → s.take a' = s.take a ++ (vlF 7 t1.length ++ t1)) := by
 obtain ⟨n1, n2, at1, left1, bad1, e1, e2, hr, h2, h1, hb0, _, hg⟩ := numR_ex N s at_ left bad hN hs h
 unfold ms_l43Read mi_byteReader__text
 rw [e1, e2]
 simp only [Option.bind_some]
 obtain ⟨n2, rfl⟩ := Int.eq_ofNat_of_zero_le h2
 rcases hr with ⟨rfl, rfl⟩ | ⟨rfl, a, rfl, ha, rfl⟩
 ·have d1 : decide ((-1 : Int) < 0) = true := by decide
  simp only [d1, cond_true, Option.bind_some]
  by_cases hc : n2 > left1.length
  ·have d2 : decide ((n2 : Int) > (left1.length : Int)) = true := by first | (simp; done) | (simp; omega)
   rw [d2, cond_true]
   exact ⟨[], [], -1, left1, true, rfl, rfl, .inl ⟨rfl, rfl⟩, by simp, (fun h => by cases h)⟩
  ·have d2 : decide ((n2 : Int) > (left1.length : Int)) = false := by first | (simp; done) | (simp; omega)
   rw [d2, cond_false, show (0 : Int) = ((0 : Nat) : Int) from rfl, cut_nat (by omega) (by omega), Option.bind_some, cut_nat (by omega) (Nat.le_refl _), Option.bind_some]
   exact ⟨[], _, -1, _, true, rfl, rfl, .inl ⟨rfl, rfl⟩, by simp, (fun h => by cases h)⟩
 ·obtain ⟨rfl, e, hlt, hby⟩ := hg rfl
  subst e
  have d1 : decide (((a : Nat) : Int) < 0) = false := by first | (simp; done) | (simp; omega)
  rw [d1, wrap64 (n := (s.length : Int) - (a : Int)) (by omega) (by omega)]
  simp only [cond_false, Option.bind_some, List.length_drop]
  by_cases hc : n2 > s.length - a
  ·have d2 : decide ((n2 : Int) > ((s.length - a : Nat) : Int)) = true := by first | (simp; done) | (simp; omega)
   have d3 : decide ((n2 : Int) > (s.length : Int) - (a : Int)) = true := by first | (simp; done) | (simp; omega)
   rw [d2, d3, cond_true, cond_true]
   exact ⟨[], [], -1, _, true, rfl, rfl, .inl ⟨rfl, rfl⟩, by simp, (fun h => by cases h)⟩
  ·have d2 : decide ((n2 : Int) > ((s.length - a : Nat) : Int)) = false := by first | (simp; done) | (simp; omega)
   have d3 : decide ((n2 : Int) > (s.length : Int) - (a : Int)) = false := by first | (simp; done) | (simp; omega)
   have hl : (s.drop a).length = s.length - a := by simp
   rw [d2, d3, cond_false, cond_false, wrap64 (n := (a : Int) + (n2 : Int)) (by omega) (by omega), show (a : Int) + (n2 : Int) = ((a + n2 : Nat) : Int) by omega, cut_nat (by omega) (by omega), Option.bind_some,
    show (0 : Int) = ((0 : Nat) : Int) from rfl, cut_nat (by omega) (by omega), Option.bind_some, ← hl, cut_nat (by omega) (Nat.le_refl _), Option.bind_some]
   have ht : ((s.drop a).take (a + n2 - a)).length = n2 := by first | (simp; done) | (simp; omega)
   refine ⟨(s.drop a).take (a + n2 - a), _, ((a + n2 : Nat) : Int), _, false, rfl, rfl, .inr ⟨rfl, a + n2, rfl, by omega, ?_⟩, by omega, fun _ => ⟨by trivial, ?_, fun b b' hb hb' => ?_⟩⟩
   ·rw [List.take_of_length_le (by first | (simp; done) | (simp; omega)), List.drop_drop]
   ·rw [List.drop_zero, Nat.sub_zero, Nat.add_sub_cancel_left]
   ·obtain rfl : b' = a + n2 := by omega
    rw [ht, ← List.append_assoc]
    have := hby b a hb rfl
    rw [Int.toNat_natCast] at this
    rw [← this, Nat.add_sub_cancel_left, ← List.take_add]

theorem kidsR_ex (ends : List Int) (m : Int) (h0 : 0 ≤ m) (hl : ends.length ≤ 1000) : ∃ e k, ms_l43Kids ends m = some (e, k) ∧ e.length ≤ ends.length ∧ k.length ≤ ends.length + 1 ∧ (m > (ends.length : Int) → e = [] ∧ k = [-1]) ∧
  (m ≤ (ends.length : Int) → e = ends.take (ends.length - m.toNat) ∧ k = ends.drop (ends.length - m.toNat)) := by
 unfold ms_l43Kids
 obtain ⟨m, rfl⟩ := Int.eq_ofNat_of_zero_le h0
 by_cases h : m > ends.length
 ·have d : decide ((m : Int) > (ends.length : Int)) = true := by first | (simp; done) | (simp; omega)
  rw [d, cond_true]
  exact ⟨[], [-1], rfl, by simp, by simp, fun _ => ⟨rfl, rfl⟩, fun h' => by omega⟩
 ·have d : decide ((m : Int) > (ends.length : Int)) = false := by first | (simp; done) | (simp; omega)
  rw [d, cond_false, wrap64 (by omega) (by omega), show (ends.length : Int) - (m : Int) = ((ends.length - m : Nat) : Int) by omega, show (0 : Int) = ((0 : Nat) : Int) from rfl, cut_nat (by omega) (by omega), Option.bind_some, cut_nat (by omega) (Nat.le_refl _), Option.bind_some, app_some (by first | (simp; done) | (simp; omega)), Option.bind_some]
  refine ⟨_, _, rfl, by first | (simp; done) | (simp; omega), by first | (simp; done) | (simp; omega), (fun h' => by omega), fun _ => ⟨?_, ?_⟩⟩
  ·rw [List.drop_zero, Nat.sub_zero, Int.toNat_natCast]
  ·rw [List.nil_append, List.take_of_length_le (by simp), Int.toNat_natCast]

theorem cond3 (c1 c2 c3 : Bool) : (bif c1 then bif c2 then some c3 else some false else some false) = some (c1 && (c2 && c3)) := by cases c1 <;> cases c2 <;> rfl

theorem atR_neg (N f : Nat) (s : List UInt8) (r2 : Int × Int) (i : Int) (out : List SNode) (ends : List Int) : ms_ReadTree_l1 N (f + 1) (s, r2, -1, i, out, ends) = some ([], false) := by
 rw [ms_ReadTree_l1]
 have d : decide ((-1 : Int) ≥ 0) = false := by decide
 have d2 : ((-1 : Int) != (s.length : Int)) = true := by
  rw [bne_iff_ne]
  omega
 rw [cond3, d]
 simp only [Bool.and_false, Option.bind_some, cond_false, d2, cond_true]

theorem badR_l (N : Nat) (s : List UInt8) (n0 k0 : Int) (hN : 1048577 + 400 < N) (hs : s.length ≤ 1048576) : ∀ (f i : Nat) (at_ : Int) (out : List SNode) (ends : List Int), 401 - i < f → i ≤ 400 → out.length = i → (at_ = -1 ∨ ∃ a : Nat, at_ = (a : Int) ∧ a ≤ s.length) →
  (n0 > 400 ∨ ∃ x, x ∈ out ∧ ∃ k, k ∈ x.Kids ∧ k < 0) → (∀ x, x ∈ out → smNode x) → ends.length ≤ i → ms_ReadTree_l1 N f (s, (n0, k0), at_, (i : Int), out, ends) = some ([], false) := by
 intro f
 induction f with
 | zero => intro i at_ out ends h; omega
 | succ f ih =>
  intro i at_ out ends hf hi ho hat hbad hsm he
  rcases hat with rfl | ⟨a, rfl, ha⟩
  ·exact atR_neg N f s (n0, k0) i out ends
  rw [ms_ReadTree_l1, cond3]
  simp only [Option.bind_some]
  cases hc : (decide ((i : Int) < n0) && (decide ((i : Int) < 400) && decide ((a : Int) ≥ 0))) with
  | true =>
   simp only [Bool.and_eq_true, decide_eq_true_eq] at hc
   rw [cond_true]
   have hf' : 401 - (i + 1) < f := by omega
   have hi' : i + 1 ≤ 400 := by omega
   obtain ⟨n1, _, at1, l1, b1, e1, _, r1, _, _, _, _, _⟩ := numR_ex N s (a : Int) (s.drop a) false (by omega) hs (.inr ⟨rfl, a, rfl, ha, rfl⟩)
   obtain ⟨n2, _, at2, l2, b2, e2, _, r2, _, _, _, _, _⟩ := numR_ex N s at1 l1 b1 (by omega) hs r1
   obtain ⟨t3, _, at3, l3, b3, e3, _, r3, h3, _⟩ := textR_ex N s at2 l2 b2 (by omega) hs r2
   obtain ⟨t4, _, at4, l4, b4, e4, _, r4, h4, _⟩ := textR_ex N s at3 l3 b3 (by omega) hs r3
   obtain ⟨n5, _, at5, l5, b5, e5, _, r5, _, p5, _, _, _⟩ := numR_ex N s at4 l4 b4 (by omega) hs r4
   obtain ⟨e, k, e6, q1, q2, _, _⟩ := kidsR_ex ends n5 p5 (by omega)
   simp only [e1, e2, e3, e4, e5, e6, Option.bind_some]
   rw [app_some (by first | (simp; done) | (simp; omega)), Option.bind_some, app_some (by first | (simp; done) | (simp; omega)), Option.bind_some, app_some (by first | (simp; done) | (simp; omega)), Option.bind_some, wrap64 (by omega) (by omega)]
   refine ih (i + 1) at5 _ _ hf' hi' (by first | (simp; done) | (simp; omega)) ?_ ?_ (fun x hx => ?_) (by first | (simp; done) | (simp; omega))
   ·rcases r5 with ⟨_, h⟩ | ⟨_, a', h1, h2, _⟩
    ·exact .inl h
    ·exact .inr ⟨a', h1, h2⟩
   ·exact hbad.imp id fun ⟨x, hx, hk⟩ => ⟨x, List.mem_append.2 (.inl hx), hk⟩
   ·rcases List.mem_append.1 hx with hx | hx
    ·exact hsm x hx
    ·rw [List.mem_singleton.1 hx]
     exact ⟨by simp only; omega, by simp only; omega, by simp only; omega⟩
  | false =>
   rw [cond_false]
   cases h1 : ((a : Int) != (s.length : Int)) with
   | true => simp only [cond_true, Option.bind_some]
   | false =>
    simp only [cond_false]
    cases h2 : ((out.length : Int) != n0) with
    | true => simp only [cond_true, Option.bind_some]
    | false =>
     obtain ⟨b, b1, _, b3⟩ := treeOk_ex N out (by omega) hsm
     have hb : b = false := by
      cases b with
      | false => rfl
      | true =>
       obtain ⟨hsh, _⟩ := b3 rfl
       rcases hbad with h | ⟨x, hx, k, hk, hneg⟩
       ·simp only [bne_eq_false_iff_eq] at h2; omega
       ·have := ((shape_kids hsh x hx).2 k hk).1
        omega
     subst hb
     simp only [cond_false, b1, Option.bind_some, Bool.not_false, cond_true]

def nb (x : SNode) : List UInt8 := vlF 7 x.Kind.toNat ++ (vlF 7 x.Op.toNat ++ ((vlF 7 x.Text.length ++ x.Text) ++ ((vlF 7 x.Other.length ++ x.Other) ++ vlF 7 x.Kids.length)))
def inR (x : SNode) : Prop := (0 ≤ x.Kind ∧ x.Kind < 562949953421312) ∧ (0 ≤ x.Op ∧ x.Op < 562949953421312)

theorem nb_len (x : SNode) (h : smNode x) : (nb x).length ≤ 3000000 := by
 unfold smNode at h
 have h1 := vlF_len 7 x.Kind.toNat
 have h2 := vlF_len 7 x.Op.toNat
 have h3 := vlF_len 7 x.Text.length
 have h4 := vlF_len 7 x.Other.length
 have h5 := vlF_len 7 x.Kids.length
 unfold nb
 simp only [List.length_append]
 omega

theorem show_l2 (N : Nat) (hN : 100 < N) (a : List SNode) (hl : a.length ≤ 1048576) (hs : ∀ x, x ∈ a → smNode x ∧ inR x) : ∀ (k i f : Nat) (acc : List UInt8), i + k = a.length → k < f → acc.length ≤ 100 + i * 3000000 →
  ms_ShowTree_l1 N f (a, acc, (i : Int)) = some (acc ++ (a.drop i).flatMap nb) := by
 intro k
 induction k with
 | zero =>
  intro i f acc hi hf ha
  obtain ⟨f, rfl⟩ : ∃ m, f = m + 1 := ⟨f - 1, by omega⟩
  have hlt : ¬ i < a.length := by omega
  rw [ms_ShowTree_l1, lt_false hlt, cond_false, drop_nil hlt]
  simp
 | succ k ih =>
  intro i f acc hi hf ha
  obtain ⟨f, rfl⟩ : ∃ m, f = m + 1 := ⟨f - 1, by omega⟩
  have hlt : i < a.length := by omega
  have hx := ix_nat hlt
  obtain ⟨hsm, ⟨k1, k2⟩, o1, o2⟩ := hs a[i] (List.getElem_mem hlt)
  have hnl := nb_len a[i] hsm
  unfold smNode at hsm
  obtain ⟨kk, hkk⟩ := Int.eq_ofNat_of_zero_le k1
  obtain ⟨oo, hoo⟩ := Int.eq_ofNat_of_zero_le o1
  have a1 : ms_Var N a[i].Kind = some (vlF 7 a[i].Kind.toNat) := by rw [hkk, Int.toNat_natCast]; exact var_vl N hN kk (by omega)
  have a2 : ms_Var N a[i].Op = some (vlF 7 a[i].Op.toNat) := by rw [hoo, Int.toNat_natCast]; exact var_vl N hN oo (by omega)
  have a3 := var_vl N hN a[i].Text.length (by omega)
  have a4 := var_vl N hN a[i].Other.length (by omega)
  have a5 := var_vl N hN a[i].Kids.length (by omega)
  have c1 := vlF_len 7 a[i].Kind.toNat
  have c2 := vlF_len 7 a[i].Op.toNat
  have c3 := vlF_len 7 a[i].Text.length
  have c4 := vlF_len 7 a[i].Other.length
  have c5 := vlF_len 7 a[i].Kids.length
  have hm : (9223372036854775807 : Nat) = maxLen := rfl
  have hstep : IntKind.wrap .i64 ((i : Int) + 1) = ((i + 1 : Nat) : Int) := by rw [wrap64 (by omega) (by omega)]; omega
  rw [ms_ShowTree_l1, lt_true hlt, cond_true]
  unfold ms_l43Text
  simp only [hx, Option.bind_some, a1, a2, a3, a4, a5]
  rw [cat_some (by omega), Option.bind_some, cat_some (by simp only [List.length_append]; omega), Option.bind_some, cat_some (by omega), Option.bind_some, Option.bind_some, cat_some (by simp only [List.length_append]; omega), Option.bind_some,
   cat_some (by omega), Option.bind_some, Option.bind_some, cat_some (by simp only [List.length_append]; omega), Option.bind_some, cat_some (by simp only [List.length_append]; omega), Option.bind_some, hstep]
  rw [ih (i + 1) f _ (by omega) (by omega) (by simp only [List.length_append]; omega), drop_cons hlt, List.flatMap_cons]
  unfold nb
  simp only [List.append_assoc]

theorem readR_l (N : Nat) (s : List UInt8) (many : Nat) (k0 : Int) (l0 : List UInt8) (b0 : Bool) (hN : 1048577 + 400 < N) (hs : s.length ≤ 1048576) (hm : many ≤ 400) : ∀ (f i a : Nat) (out : List SNode) (open_ : List Int), 402 - i < f → i ≤ many → out.length = i → a ≤ s.length →
  s.take a = vlF 7 many ++ out.flatMap nb → (∀ x, x ∈ out → smNode x ∧ inR x) → open_.length ≤ i →
  ∃ r, mi_ReadTree_l1 N f (s, ((many : Int), l0, b0), (i : Int), s.drop a, false, out, open_) = some r ∧ ms_ReadTree_l1 N f (s, ((many : Int), k0), (a : Int), (i : Int), out, open_) = some r ∧ r.1.length ≤ 400 ∧ ∀ x, x ∈ r.1 → smNode x := by
 intro f
 induction f with
 | zero => intro i a out open_ h; omega
 | succ f ih =>
  intro i a out open_ hf hi ho ha hby hsm hop
  rw [mi_ReadTree_l1, ms_ReadTree_l1, cond3]
  simp only [Option.bind_some]
  have dz : decide ((a : Int) ≥ 0) = true := by simp
  by_cases h : i < many
  ·have d4 : decide ((i : Int) < 400) = true := by first | (simp; done) | (simp; omega)
   simp only [lt_true h, d4, dz, Bool.and_self, cond_true]
   obtain ⟨n1, n1', at1, l1, b1, e1, i1, r1, _, q1, _, _, g1⟩ := numR_ex N s (a : Int) (s.drop a) false (by omega) hs (.inr ⟨rfl, a, rfl, ha, rfl⟩)
   obtain ⟨n2, n2', at2, l2, b2, e2, i2, r2, _, q2, _, _, g2⟩ := numR_ex N s at1 l1 b1 (by omega) hs r1
   obtain ⟨t3, t3', at3, l3, b3, e3, i3, r3, h3, g3⟩ := textR_ex N s at2 l2 b2 (by omega) hs r2
   obtain ⟨t4, t4', at4, l4, b4, e4, i4, r4, h4, g4⟩ := textR_ex N s at3 l3 b3 (by omega) hs r3
   obtain ⟨n5, n5', at5, l5, b5, e5, i5, r5, p5, q5, z5, _, g5⟩ := numR_ex N s at4 l4 b4 (by omega) hs r4
   obtain ⟨e, k, e6, w1, w2, w3, w4⟩ := kidsR_ex open_ n5 q5 (by omega)
   simp only [e1, e2, e3, e4, e5, e6, i1, i2, i3, i4, i5, Option.bind_some]
   rw [app_some (n := 8) (l := ([] : List Int)) (l2 := e) (by first | (simp; done) | (simp; omega)), Option.bind_some, app_some (n := 8) (l := [] ++ e) (by first | (simp; done) | (simp; omega)), Option.bind_some, app_some (n := 72) (l := out) (l2 := [(⟨n1, n2, t3, t4, k⟩ : SNode)]) (by first | (simp; done) | (simp; omega)), Option.bind_some, wrap64 (n := (i : Int) + 1) (by omega) (by omega)]
   have hnode : smNode ⟨n1, n2, t3, t4, k⟩ := ⟨by simp only; omega, by simp only; omega, by simp only; omega⟩
   cases b5 with
   | true =>
    simp only [cond_true, Option.bind_some]
    refine ⟨([], false), rfl, ?_, by simp, fun x hx => by cases hx⟩
    have h5 : at5 = -1 := by
     rcases r5 with ⟨_, h⟩ | ⟨h, _⟩
     ·exact h
     ·cases h
    subst h5
    obtain ⟨f, rfl⟩ : ∃ m, f = m + 1 := ⟨f - 1, by omega⟩
    exact atR_neg N f s _ _ _ _
   | false =>
    obtain ⟨rfl, rfl, u5, y5⟩ := g5 rfl
    obtain ⟨rfl, rfl, y4⟩ := g4 rfl
    obtain ⟨rfl, rfl, y3⟩ := g3 rfl
    obtain ⟨rfl, rfl, u2, y2⟩ := g2 rfl
    obtain ⟨_, rfl, u1, y1⟩ := g1 rfl
    have rn : ∀ {x : Int} {l : List UInt8}, RS s x l false → ∃ a : Nat, x = (a : Int) ∧ a ≤ s.length ∧ l = s.drop a := fun h => by
     rcases h with ⟨h, _⟩ | ⟨_, h⟩
     ·cases h
     ·exact h
    obtain ⟨a1, rfl, _, _⟩ := rn r1
    obtain ⟨a2, rfl, _, _⟩ := rn r2
    obtain ⟨a3, rfl, _, _⟩ := rn r3
    obtain ⟨a4, rfl, _, _⟩ := rn r4
    obtain ⟨a5, rfl, ha5, hl5⟩ := rn r5
    have y1 := y1 a a1 rfl rfl
    have y2 := y2 a1 a2 rfl rfl
    have y3 := y3 a2 a3 rfl rfl
    have y4 := y4 a3 a4 rfl rfl
    have y5 := y5 a4 a5 rfl rfl
    simp only [cond_false]
    by_cases hk : n5 > (open_.length : Int)
    ·have d : decide (n5 > (open_.length : Int)) = true := by simpa using hk
     rw [d]
     simp only [Option.bind_some, cond_true]
     obtain ⟨rfl, rfl⟩ := w3 hk
     refine ⟨([], false), rfl, ?_, by simp, fun x hx => by cases hx⟩
     have := badR_l N s (many : Int) k0 hN hs f (i + 1) (a5 : Int) (out ++ [⟨n1, n2, t3, t4, [-1]⟩]) ([] ++ [] ++ [(i : Int)]) (by omega) (by omega) (by first | (simp; done) | (simp; omega)) (.inr ⟨a5, rfl, ha5⟩) (.inr ⟨⟨n1, n2, t3, t4, [-1]⟩, by simp, -1, by simp, by omega⟩)
      (fun x hx => (List.mem_append.1 hx).elim (fun h => (hsm x h).1) fun h => by rw [List.mem_singleton.1 h]; exact hnode) (by simp)
     exact this
    ·have d : decide (n5 > (open_.length : Int)) = false := by simpa using hk
     rw [d]
     simp only [Option.bind_some, cond_false]
     obtain ⟨rfl, rfl⟩ := w4 (by omega)
     obtain ⟨m, rfl⟩ := Int.eq_ofNat_of_zero_le q5
     have hml : m ≤ open_.length := by omega
     rw [wrap64 (n := (open_.length : Int) - (m : Int)) (by omega) (by omega), show (open_.length : Int) - (m : Int) = ((open_.length - m : Nat) : Int) by omega, cut_nat (by omega) (Nat.le_refl _), Option.bind_some, app_some (by first | (simp; done) | (simp; omega)), Option.bind_some, show (0 : Int) = ((0 : Nat) : Int) from rfl, cut_nat (by omega) (by omega), Option.bind_some, app_some (by first | (simp; done) | (simp; omega)), Option.bind_some]
     have hk1 : [] ++ (open_.drop (open_.length - m)).take (open_.length - (open_.length - m)) = open_.drop (open_.length - ((m : Nat) : Int).toNat) := by
      rw [List.nil_append, List.take_of_length_le (by simp), Int.toNat_natCast]
     have hk2 : (open_.drop 0).take (open_.length - m - 0) = [] ++ open_.take (open_.length - ((m : Nat) : Int).toNat) := by
      rw [List.drop_zero, Nat.sub_zero, List.nil_append, Int.toNat_natCast]
     rw [hk1, hk2]
     rw [app_some (by first | (simp; done) | (simp; omega)), Option.bind_some]
     rw [hl5]
     have hkl : (open_.drop (open_.length - ((m : Nat) : Int).toNat)).length = m := by first | (simp; done) | (simp; omega)
     have hkl2 : (open_.drop (open_.length - m)).length = m := by rw [List.length_drop]; omega
     refine ih (i + 1) a5 _ _ (by omega) (by omega) (by first | (simp; done) | (simp; omega)) ha5 ?_ (fun x hx => ?_) (by first | (simp; done) | (simp; omega))
     ·rw [List.flatMap_append, ← List.append_assoc, ← hby, y5, y4, y3, y2, y1]
      simp only [List.flatMap_cons, List.flatMap_nil, List.append_nil, nb, Int.toNat_natCast, hkl2, List.append_assoc]
     ·rcases List.mem_append.1 hx with h | h
      ·exact hsm x h
      ·rw [List.mem_singleton.1 h]
       exact ⟨hnode, ⟨q1, u1⟩, q2, u2⟩
  ·obtain rfl : i = many := by omega
   simp only [lt_false h, Bool.false_and, cond_false]
   have hsm' : ∀ x, x ∈ out → smNode x := fun x hx => (hsm x hx).1
   obtain ⟨b, b1, b2, _⟩ := treeOk_ex N out (by omega) hsm'
   have hne : ((out.length : Int) != (i : Int)) = false := by simp [ho]
   rw [b1, b2, hne]
   simp only [Option.bind_some, cond_false]
   cases b with
   | false =>
    simp only [Bool.not_false, cond_true, Option.bind_some]
    refine ⟨([], false), rfl, ?_, by simp, fun x hx => by cases hx⟩
    cases ((a : Int) != (s.length : Int)) <;> rfl
   | true =>
    obtain ⟨sh, s1, s2⟩ := show_is N out (by omega) (by omega) hsm'
    have hsh : sh = s.take a := by
     have h1 := s1
     unfold ms_ShowTree at h1
     rw [b1] at h1
     simp only [Option.bind_some, Bool.not_true, cond_false] at h1
     rw [var_vl N (by omega) out.length (by omega), Option.bind_some] at h1
     have h8 := vlF_len 7 out.length
     have := show_l2 N (by omega) out (by omega) hsm out.length 0 N (vlF 7 out.length) (by omega) (by omega) (by omega)
     have h2 : some (vlF 7 out.length ++ (out.drop 0).flatMap nb) = some sh := this.symm.trans h1
     rw [hby, ← Option.some.inj h2, List.drop_zero, ho]
    rw [s1, s2]
    simp only [Bool.not_true, cond_false, Option.bind_some]
    by_cases hal : a = s.length
    ·have h1 : ((a : Int) != (s.length : Int)) = false := by simp [hal]
     have h2 : (!(sh == s)) = false := by rw [hsh, hal, List.take_length]; simp
     rw [h1, h2]
     simp only [cond_false, Option.bind_some]
     exact ⟨(out, true), rfl, rfl, by simp only; omega, hsm'⟩
    ·have h1 : ((a : Int) != (s.length : Int)) = true := by first | (simp; done) | (simp; omega)
     have h2 : (!(sh == s)) = true := by
      have : sh ≠ s := fun e => by
       have := congrArg List.length e
       rw [hsh, List.length_take] at this
       omega
      simpa using this
     rw [h1, h2]
     simp only [cond_true, Option.bind_some]
     exact ⟨([], false), rfl, rfl, by simp, fun x hx => by cases hx⟩

theorem readTree_ex (N : Nat) (s : List UInt8) (hN : 1048577 + 800 < N) (hs : s.length ≤ 1048576) : ∃ r, ms_ReadTree N s = some r ∧ mi_ReadTree N s = some r ∧ r.1.length ≤ 400 ∧ ∀ x, x ∈ r.1 → smNode x := by
 obtain ⟨n1, n2, at1, l1, b1, e1, i1, r1, p1, q1, z1, z2, g1⟩ := numR_ex N s 0 s false (by omega) hs (.inr ⟨rfl, 0, rfl, by omega, rfl⟩)
 unfold ms_ReadTree mi_ReadTree
 rw [e1, i1]
 simp only [Option.bind_some]
 obtain ⟨M, rfl⟩ : ∃ M, N = M + 1 := ⟨N - 1, by omega⟩
 cases b1 with
 | true =>
  have h2 := z2 rfl rfl
  subst h2
  have h5 : at1 = -1 := by
   rcases r1 with ⟨_, h⟩ | ⟨h, _⟩
   ·exact h
   ·cases h
  subst h5
  have d : decide ((0 : Int) > 400) = false := by decide
  rw [d, cond_false]
  refine ⟨([], false), atR_neg _ M s _ _ _ _, ?_, by simp, fun x hx => by cases hx⟩
  rw [mi_ReadTree_l1]
  rfl
 | false =>
  obtain ⟨_, rfl, u1, y1⟩ := g1 rfl
  obtain ⟨many, rfl⟩ := Int.eq_ofNat_of_zero_le q1
  obtain ⟨a, rfl, ha, rfl⟩ : ∃ a : Nat, at1 = (a : Int) ∧ a ≤ s.length ∧ l1 = s.drop a := by
   rcases r1 with ⟨h, _⟩ | ⟨_, h⟩
   ·cases h
   ·exact h
  by_cases h : many > 400
  ·have d : decide ((many : Int) > 400) = true := by first | (simp; done) | (simp; omega)
   rw [d, cond_true]
   refine ⟨([], false), ?_, rfl, by simp, fun x hx => by cases hx⟩
   exact badR_l (M + 1) s (many : Int) (a : Int) (by omega) hs (M + 1) 0 (a : Int) [] [] (by omega) (by omega) rfl (.inr ⟨a, rfl, ha⟩) (.inl (by omega)) (fun x hx => by cases hx) (by simp)
  ·have d : decide ((many : Int) > 400) = false := by first | (simp; done) | (simp; omega)
   rw [d, cond_false]
   have hy := y1 0 a rfl rfl
   rw [List.take_zero, List.nil_append, Int.toNat_natCast] at hy
   obtain ⟨r, c1, c2, c3, c4⟩ := readR_l (M + 1) s many (a : Int) (s.drop a) false (by omega) hs (by omega) (M + 1) 0 a [] [] (by omega) (by omega) rfl ha (by rw [hy]; simp) (fun x hx => by cases hx) (by simp)
   exact ⟨r, c2, c1, c3, c4⟩

theorem treeOk_fields (N : Nat) (a : List SNode) (hN : 500 < N) (hsh : shapeB a = true) (h : ms_TreeOk N a = some true) : ∀ x, x ∈ a → ms_FieldsOk N x = some true := by
 unfold ms_TreeOk at h
 obtain ⟨y, _, h⟩ := Option.bind_eq_some_iff.1 h
 cases y with
 | true => cases h
 | false =>
  rw [cond_false] at h
  intro x hx
  have h2 := (shape_of hsh).2.1
  exact fields_l1 N a h2 (fun z hz => (shape_kids hsh z hz).1) hN N 0 (by omega) (by omega) h x (by rw [List.drop_zero]; exact hx)
theorem fields_op (N : Nat) (x : SNode) (h : ms_FieldsOk N x = some true) : ms_l7Op x = some true := by
 unfold ms_FieldsOk at h
 obtain ⟨r2, _, h⟩ := Option.bind_eq_some_iff.1 h
 obtain ⟨y6, _, h⟩ := Option.bind_eq_some_iff.1 h
 obtain ⟨y13, h, h'⟩ := Option.bind_eq_some_iff.1 h
 cases h'
 cases y6 with
 | false => cases h
 | true =>
  rw [cond_true] at h
  obtain ⟨r14, h1, h⟩ := Option.bind_eq_some_iff.1 h
  cases r14 with
  | false => cases h
  | true => exact h1
theorem isBinR (a : Int) (h : ms_l7IsBin a = some true) : 0 ≤ a ∧ a ≤ 99 := by
 unfold ms_l7IsBin ms_l7IsBin_k1 at h
 by_cases h60 : a = 60; · omega
 by_cases h57 : a = 57; · omega
 by_cases h58 : a = 58; · omega
 by_cases h59 : a = 59; · omega
 by_cases h55 : a = 55; · omega
 by_cases h56 : a = 56; · omega
 by_cases h99 : a = 99; · omega
 by_cases h63 : a = 63; · omega
 by_cases h48 : a = 48; · omega
 by_cases h47 : a = 47; · omega
 by_cases h50 : a = 50; · omega
 by_cases h62 : a = 62; · omega
 by_cases h49 : a = 49; · omega
 by_cases h67 : a = 67; · omega
 by_cases h46 : a = 46; · omega
 by_cases h45 : a = 45; · omega
 by_cases h44 : a = 44; · omega
 simp only [beq_eq_false_iff_ne.2 h60, beq_eq_false_iff_ne.2 h57, beq_eq_false_iff_ne.2 h58, beq_eq_false_iff_ne.2 h59, beq_eq_false_iff_ne.2 h55, beq_eq_false_iff_ne.2 h56, beq_eq_false_iff_ne.2 h99, beq_eq_false_iff_ne.2 h63, beq_eq_false_iff_ne.2 h48, beq_eq_false_iff_ne.2 h47, beq_eq_false_iff_ne.2 h50, beq_eq_false_iff_ne.2 h62, beq_eq_false_iff_ne.2 h49, beq_eq_false_iff_ne.2 h67, beq_eq_false_iff_ne.2 h46, beq_eq_false_iff_ne.2 h45, beq_eq_false_iff_ne.2 h44, cond_false] at h
 cases h
theorem inB {a b c : Int} (h : ms_l1In a b c = some true) : b ≤ a ∧ a ≤ c := by
 rw [l1In_is, Option.some.injEq, Bool.and_eq_true, decide_eq_true_eq, decide_eq_true_eq] at h
 omega
theorem opR (x : SNode) (h : ms_l7Op x = some true) : 0 ≤ x.Op ∧ x.Op ≤ 100 := by
 have k1 : ∀ y, ms_l7Op_k1 (x, y) = some true → 0 ≤ x.Op ∧ x.Op ≤ 100 := fun y h => by
  unfold ms_l7Op_k1 at h
  dsimp only at h
  have or2 : ∀ c d : Int, Option.bind (bif x.Op == c then some true else some (x.Op == d)) (fun y => some y) = some true → x.Op = c ∨ x.Op = d := fun c d h => by
   cases hc : (x.Op == c) with
   | true => exact .inl (eq_of_beq hc)
   | false =>
    rw [hc, cond_false, Option.bind_some, Option.some.injEq] at h
    exact .inr (eq_of_beq h)
  cases y with
  | true => rw [cond_true] at h; have := or2 _ _ h; omega
  | false =>
   rw [cond_false] at h
   cases h11 : (x.Kind == 11) with
   | true =>
    rw [h11, cond_true] at h
    cases hc : (x.Op == 55) with
    | true => have := eq_of_beq hc; omega
    | false => rw [hc, cond_false] at h; have := or2 _ _ h; omega
   | false =>
    rw [h11, cond_false] at h
    cases h12 : (x.Kind == 12) with
    | true =>
     rw [h12, cond_true] at h
     obtain ⟨r, h1, h2⟩ := Option.bind_eq_some_iff.1 h
     cases h2
     have := isBinR _ h1; omega
    | false =>
     rw [h12, cond_false] at h
     cases h15 : (x.Kind == 15) with
     | true =>
      rw [h15, cond_true] at h
      obtain ⟨r, h1, h2⟩ := Option.bind_eq_some_iff.1 h
      cases h2
      unfold ms_l7IsAssign at h1
      obtain ⟨r, h1, h2⟩ := Option.bind_eq_some_iff.1 h1
      cases h2
      cases hc : (x.Op == 54) with
      | true => have := eq_of_beq hc; omega
      | false =>
       rw [hc, cond_false] at h1
       obtain ⟨r, h1, h2⟩ := Option.bind_eq_some_iff.1 h1
       cases h2
       have := inB h1; omega
     | false =>
      rw [h15, cond_false] at h
      cases h21 : (x.Kind == 21) with
      | true =>
       rw [h21, cond_true] at h
       obtain ⟨r, h1, h2⟩ := Option.bind_eq_some_iff.1 h
       cases h2
       have := inB h1; omega
      | false =>
       rw [h21, cond_false] at h
       cases h42 : (x.Kind == 42) with
       | true =>
        rw [h42, cond_true] at h
        obtain ⟨r, h1, h2⟩ := Option.bind_eq_some_iff.1 h
        cases h2
        have := inB h1; omega
       | false =>
        rw [h42, cond_false] at h
        cases h43 : (x.Kind == 43) with
        | true => rw [h43, cond_true] at h; have := or2 _ _ h; omega
        | false =>
         rw [h43, cond_false, Option.some.injEq] at h
         have := eq_of_beq h; omega
 unfold ms_l7Op at h
 cases h9 : (x.Kind == 9) with
 | true => rw [h9, cond_true] at h; exact k1 _ h
 | false => rw [h9, cond_false] at h; exact k1 _ h

theorem dig_vlF : ∀ k n : Nat, n < 128 ^ (k + 1) → dig (vlF k n) = n
 | 0, n, h => by
  have h : n < 128 := h
  rw [vlF, dig, dig, bytI_nat n (by omega)]
  omega
 | k + 1, n, h => by
  rw [vlF]
  split
  ·rw [dig, dig, bytI_nat n (by omega)]
   omega
  ·rw [dig, bytI_nat _ (by omega), dig_vlF k (n / 128) (by rw [Nat.pow_succ] at h; exact Nat.div_lt_of_lt_mul (by rw [Nat.mul_comm]; exact h))]
   omega
theorem vlF_short : ∀ k m n : Nat, 1 ≤ m → n < 128 ^ m → (vlF k n).length ≤ m
 | 0, m, n, hm, _ => by rw [vlF]; simp; omega
 | k + 1, m, n, hm, h => by
  rw [vlF]
  split
  ·simp; omega
  ·obtain ⟨m, rfl⟩ : ∃ j, m = j + 1 := ⟨m - 1, by omega⟩
   have hm1 : 1 ≤ m := by
    cases m with
    | zero => exfalso; have : n < 128 := h; omega
    | succ m => omega
   have := vlF_short k m (n / 128) hm1 (by rw [Nat.pow_succ] at h; exact Nat.div_lt_of_lt_mul (by rw [Nat.mul_comm]; exact h))
   simp only [List.length_cons]; omega
theorem rdP_app (n : Nat) (hn : n < 562949953421312) (rest : List UInt8) : rdP (vlF 7 n ++ rest) = ((n : Int), ((vlF 7 n).length : Int)) := by
 have e7 : (128 : Nat) ^ 7 = 562949953421312 := by decide
 have hl := vlF_short 7 7 n (by omega) (by omega)
 have h1 := (vlF_len 7 n).1
 have hd := dig_vlF 7 n (by have : (128 : Nat) ^ (7 + 1) = 128 ^ 7 * 128 := Nat.pow_succ ..; omega)
 have ht : (vlF 7 n ++ rest).take (vlF 7 n).length = vlF 7 n := by rw [List.take_left' rfl]
 have hne : vlF 7 n ≠ [] := fun e => by rw [e] at h1; simp at h1
 have hok : okV true (vlF 7 n) = true := (vl_ok (vlF 7 n) true 7 (by omega)).1 ⟨hne, by rw [hd], .inl rfl⟩
 have := (rd_ok 7 true (vlF 7 n ++ rest) (vlF 7 n).length h1 hl (by simp)).1 (by rw [ht]; exact hok)
 unfold rdP
 rw [this, ht, hd]
theorem numS_at (N : Nat) (hN : 100 < N) (s : List UInt8) (a n : Nat) (rest : List UInt8) (hn : n < 562949953421312) (ha : a ≤ s.length) (hs : s.length ≤ 1048576) (h : s.drop a = vlF 7 n ++ rest) : ms_l43Num N s (a : Int) = some ((n : Int), ((a + (vlF 7 n).length : Nat) : Int)) := by
 have h1 := (vlF_len 7 n).1
 have hlen := congrArg List.length h
 rw [List.length_drop, List.length_append] at hlen
 unfold ms_l43Num
 have d0 : decide ((a : Int) < 0) = false := by simp
 rw [d0, cond_false, cut_nat ha (Nat.le_refl _), List.take_of_length_le (by simp), Option.bind_some, readVar_spec N _ hN, h, rdP_app n hn, Option.bind_some]
 have z : (((vlF 7 n).length : Int) == 0) = false := by rw [beq_eq_false_iff_ne]; omega
 dsimp only
 rw [z, cond_false, wrap64 (by omega) (by omega)]
 simp
theorem textS_at (N : Nat) (hN : 100 < N) (s : List UInt8) (a : Nat) (t rest : List UInt8) (ha : a ≤ s.length) (hs : s.length ≤ 1048576) (h : s.drop a = (vlF 7 t.length ++ t) ++ rest) : ms_l43Read N s (a : Int) = some (t, ((a + ((vlF 7 t.length).length + t.length) : Nat) : Int)) := by
 have hlen := congrArg List.length h
 simp only [List.length_drop, List.length_append] at hlen
 have hn := numS_at N hN s a t.length (t ++ rest) (by omega) ha hs (by rw [h, List.append_assoc])
 unfold ms_l43Read
 rw [hn, Option.bind_some]
 have d0 : decide (((a + (vlF 7 t.length).length : Nat) : Int) < 0) = false := decide_eq_false (by omega)
 have d1 : decide ((t.length : Int) > IntKind.wrap .i64 ((s.length : Int) - ((a + (vlF 7 t.length).length : Nat) : Int))) = false := by
  rw [wrap64 (by omega) (by omega)]; simp; omega
 dsimp only
 rw [d0, cond_false, d1, Option.bind_some, cond_false, wrap64 (by omega) (by omega), show ((a + (vlF 7 t.length).length : Nat) : Int) + (t.length : Int) = ((a + (vlF 7 t.length).length + t.length : Nat) : Int) by omega, cut_nat (by omega) (by omega), Option.bind_some]
 have e : s.drop (a + (vlF 7 t.length).length) = t ++ rest := by
  rw [← List.drop_drop, h, List.append_assoc, List.drop_left' rfl]
 rw [e, show a + (vlF 7 t.length).length + t.length - (a + (vlF 7 t.length).length) = t.length by omega, List.take_left' rfl, Nat.add_assoc]
theorem kidsS_at (E ks : List Int) (h : E.length + ks.length ≤ 1000) : ms_l43Kids (E ++ ks) (ks.length : Int) = some (E, ks) := by
 unfold ms_l43Kids
 have d : decide ((ks.length : Int) > ((E ++ ks).length : Int)) = false := decide_eq_false (by rw [List.length_append]; omega)
 have w : IntKind.wrap .i64 (((E ++ ks).length : Int) - (ks.length : Int)) = (E.length : Int) := by rw [List.length_append, wrap64 (by omega) (by omega)]; omega
 have c1 : cut (E ++ ks) 0 (E.length : Int) = some E := by
  have := cut_nat (l := E ++ ks) (a := 0) (b := E.length) (by omega) (by simp)
  rw [List.drop_zero, Nat.sub_zero, List.take_left' rfl] at this
  exact this
 have c2 : cut (E ++ ks) (E.length : Int) ((E ++ ks).length : Int) = some ks := by
  rw [cut_nat (by simp) (Nat.le_refl _), List.drop_left' rfl, List.take_of_length_le (by simp)]
 rw [d, cond_false, w, c1, Option.bind_some, c2, Option.bind_some, app_some (by simp; omega), Option.bind_some, List.nil_append]

set_option linter.unusedSectionVars false
section
variable (N : Nat) (hN : 100 < N) (s : List UInt8) (hs : s.length ≤ 1048576) (many k0 : Nat) (hm : many ≤ 400)
include hN hs hm
mutual
theorem readT : ∀ (t : STree) (b a f : Nat) (rest : List UInt8) (out : List SNode) (E : List Int), (∀ x, x ∈ lst b t → smNode x ∧ inR x) → b + szT t ≤ many → out.length = b → E.length ≤ b → a ≤ s.length → s.drop a = (lst b t).flatMap nb ++ rest →
  ms_ReadTree_l1 N (szT t + f) (s, ((many : Int), (k0 : Int)), (a : Int), (b : Int), out, E) = ms_ReadTree_l1 N f (s, ((many : Int), (k0 : Int)), ((a + ((lst b t).flatMap nb).length : Nat) : Int), ((b + szT t : Nat) : Int), out ++ lst b t, E ++ [((b + szT t : Nat) : Int) - 1])
 | ⟨k, o, x, y, ts⟩, b, a, f, rest, out, E, hx, hb, ho, hE, ha, h => by
  have hl : lst b ⟨k, o, x, y, ts⟩ = lsts b ts ++ [⟨k, o, x, y, endsT b ts⟩] := by rw [lst]
  have hz : szT ⟨k, o, x, y, ts⟩ = szTs ts + 1 := by rw [szT]
  rw [hl, List.flatMap_append] at h
  rw [hz] at hb ⊢
  rw [hl] at hx ⊢
  rw [List.append_assoc] at h
  have hlenh := congrArg List.length h
  simp only [List.length_drop, List.length_append] at hlenh
  rw [show szTs ts + 1 + f = szTs ts + (f + 1) by omega, readTs ts b a (f + 1) _ out E (fun z hz => hx z (by simp [hz])) (by omega) ho hE ha h]
  have hlen : (endsT b ts).length = ts.length := endsT_len ts b
  have hk : ts.length ≤ szTs ts := szTs_len ts
  obtain ⟨hsm, ⟨c1, c2⟩, c3, c4⟩ := hx ⟨k, o, x, y, endsT b ts⟩ (by simp)
  obtain ⟨kk, hkk⟩ := Int.eq_ofNat_of_zero_le c1
  obtain ⟨oo, hoo⟩ := Int.eq_ofNat_of_zero_le c3
  have hkk : k = (kk : Int) := hkk
  have hoo : o = (oo : Int) := hoo
  subst hkk hoo
  have c2 : (kk : Int) < 562949953421312 := c2
  have c4 : (oo : Int) < 562949953421312 := c4
  have hnb : [(⟨(kk : Int), (oo : Int), x, y, endsT b ts⟩ : SNode)].flatMap nb = vlF 7 kk ++ (vlF 7 oo ++ ((vlF 7 x.length ++ x) ++ ((vlF 7 y.length ++ y) ++ vlF 7 ts.length))) := by
   simp only [List.flatMap_cons, List.flatMap_nil, List.append_nil, nb, Int.toNat_natCast, hlen]
  rw [hnb] at h hlenh
  have hG : (lsts b ts ++ [(⟨(kk : Int), (oo : Int), x, y, endsT b ts⟩ : SNode)]).flatMap nb = (lsts b ts).flatMap nb ++ (vlF 7 kk ++ (vlF 7 oo ++ ((vlF 7 x.length ++ x) ++ ((vlF 7 y.length ++ y) ++ vlF 7 ts.length)))) := by rw [List.flatMap_append, hnb]
  rw [hG]
  generalize (lsts b ts).flatMap nb = F at h hlenh ⊢
  simp only [List.length_append] at hlenh
  have hdr : s.drop (a + F.length) = vlF 7 kk ++ (vlF 7 oo ++ ((vlF 7 x.length ++ x) ++ ((vlF 7 y.length ++ y) ++ (vlF 7 ts.length ++ rest)))) := by
   rw [← List.drop_drop, h, List.drop_left' rfl]
   simp only [List.append_assoc]
  have n1 := numS_at N hN s (a + F.length) kk _ (by omega) (by omega) hs hdr
  have hd2 : s.drop (a + F.length + (vlF 7 kk).length) = vlF 7 oo ++ ((vlF 7 x.length ++ x) ++ ((vlF 7 y.length ++ y) ++ (vlF 7 ts.length ++ rest))) := by rw [← List.drop_drop, hdr, List.drop_left' rfl]
  have n2 := numS_at N hN s _ oo _ (by omega) (by omega) hs hd2
  have hd3 : s.drop (a + F.length + (vlF 7 kk).length + (vlF 7 oo).length) = (vlF 7 x.length ++ x) ++ ((vlF 7 y.length ++ y) ++ (vlF 7 ts.length ++ rest)) := by rw [← List.drop_drop, hd2, List.drop_left' rfl]
  have n3 := textS_at N hN s _ x _ (by omega) hs hd3
  have hd4 : s.drop (a + F.length + (vlF 7 kk).length + (vlF 7 oo).length + ((vlF 7 x.length).length + x.length)) = (vlF 7 y.length ++ y) ++ (vlF 7 ts.length ++ rest) := by rw [← List.drop_drop, hd3, List.drop_left' (by simp)]
  have n4 := textS_at N hN s _ y _ (by omega) hs hd4
  have hd5 : s.drop (a + F.length + (vlF 7 kk).length + (vlF 7 oo).length + ((vlF 7 x.length).length + x.length) + ((vlF 7 y.length).length + y.length)) = vlF 7 ts.length ++ rest := by rw [← List.drop_drop, hd4, List.drop_left' (by simp)]
  have n5 := numS_at N hN s _ ts.length _ (by omega) (by omega) hs hd5
  have hkid := kidsS_at E (endsT b ts) (by omega)
  rw [hlen] at hkid
  rw [ms_ReadTree_l1]
  have dlt : decide (((b + szTs ts : Nat) : Int) < (many : Int)) = true := decide_eq_true (by omega)
  have d4 : decide (((b + szTs ts : Nat) : Int) < 400) = true := decide_eq_true (by omega)
  have d0 : decide (((a + F.length : Nat) : Int) ≥ 0) = true := decide_eq_true (by omega)
  simp only [dlt, d4, d0, cond_true, Option.bind_some, n1, n2, n3, n4, n5, hkid]
  have hol : (out ++ lsts b ts).length ≤ 400 := by rw [List.length_append, lsts_len]; omega
  have hll := lsts_len ts b
  rw [app_some (by simp; omega), Option.bind_some, app_some (by simp; omega), Option.bind_some, app_some (by simp; omega), Option.bind_some, List.nil_append, wrap64 (by omega) (by omega)]
  have e1 : ((b + szTs ts : Nat) : Int) + 1 = ((b + (szTs ts + 1) : Nat) : Int) := by omega
  have e2 : ((b + szTs ts : Nat) : Int) = ((b + (szTs ts + 1) : Nat) : Int) - 1 := by omega
  have e3 : a + F.length + (vlF 7 kk).length + (vlF 7 oo).length + ((vlF 7 x.length).length + x.length) + ((vlF 7 y.length).length + y.length) + (vlF 7 ts.length).length = a + (F ++ (vlF 7 kk ++ (vlF 7 oo ++ ((vlF 7 x.length ++ x) ++ ((vlF 7 y.length ++ y) ++ vlF 7 ts.length))))).length := by
   simp only [List.length_append]; omega
  rw [e1, e2, e3]
  simp only [List.append_assoc]
theorem readTs : ∀ (ts : List STree) (b a f : Nat) (rest : List UInt8) (out : List SNode) (E : List Int), (∀ x, x ∈ lsts b ts → smNode x ∧ inR x) → b + szTs ts ≤ many → out.length = b → E.length ≤ b → a ≤ s.length → s.drop a = (lsts b ts).flatMap nb ++ rest →
  ms_ReadTree_l1 N (szTs ts + f) (s, ((many : Int), (k0 : Int)), (a : Int), (b : Int), out, E) = ms_ReadTree_l1 N f (s, ((many : Int), (k0 : Int)), ((a + ((lsts b ts).flatMap nb).length : Nat) : Int), ((b + szTs ts : Nat) : Int), out ++ lsts b ts, E ++ endsT b ts)
 | [], b, a, f, rest, out, E, hx, hb, ho, hE, ha, h => by simp [szTs, lsts, endsT]
 | t :: ts, b, a, f, rest, out, E, hx, hb, ho, hE, ha, h => by
  have hl : lsts b (t :: ts) = lst b t ++ lsts (b + szT t) ts := by rw [lsts]
  have he : endsT b (t :: ts) = (((b + szT t : Nat) : Int) - 1) :: endsT (b + szT t) ts := by rw [endsT]
  have hz : szTs (t :: ts) = szT t + szTs ts := by rw [szTs]
  rw [hz] at hb ⊢
  rw [hl] at hx h ⊢
  rw [List.flatMap_append, List.append_assoc] at h
  have hp := szT_pos t
  have hlenh := congrArg List.length h
  simp only [List.length_drop, List.length_append] at hlenh
  rw [show szT t + szTs ts + f = szT t + (szTs ts + f) by omega, readT t b a (szTs ts + f) _ out E (fun z hz => hx z (by simp [hz])) (by omega) ho hE ha h]
  rw [readTs ts (b + szT t) _ f rest (out ++ lst b t) _ (fun z hz => hx z (by simp [hz])) (by omega) (by rw [List.length_append, lst_len, ho]) (by simp; omega) (by omega) (by rw [← List.drop_drop, h, List.drop_left' rfl])]
  rw [he]
  simp only [List.flatMap_append, List.length_append, Nat.add_assoc, List.append_assoc, List.cons_append, List.nil_append]
end
end
theorem shown_back (N : Nat) (a : List SNode) (hN : 1048577 + 800 < N) (hs : ∀ x, x ∈ a → smNode x) (hl : ∀ x, x ∈ a → x.Text.length ≤ 100 ∧ x.Other.length ≤ 100) (hT : ms_TreeOk N a = some true) : ∃ s, ms_ShowTree N a = some s ∧ s.length ≤ 1000000 ∧ s ≠ [] ∧ ms_ReadTree N s = some (a, true) := by
 have hsh : shapeB a = true := by
  unfold ms_TreeOk at hT
  rw [shapeOk_spec N a (by omega) hs, Option.bind_some] at hT
  cases h : shapeB a with
  | true => rfl
  | false => rw [h] at hT; cases hT
 obtain ⟨g1, g2, _, _, _, _, _, t, ht⟩ := shape_of hsh
 obtain ⟨_, hz, hp⟩ := ht.part
 have e0 : a.length - 1 + 1 = a.length := by omega
 rw [e0, part_all] at hp
 rw [e0] at hz
 have hin : ∀ x, x ∈ a → smNode x ∧ inR x := fun x hx => by
  have hf := treeOk_fields N a (by omega) hsh hT x hx
  have ho := opR x (fields_op N x hf)
  obtain ⟨b, b1, _, b3⟩ := fields_ex N x (by omega) (hs x hx) (shape_kids hsh x hx).1
  rw [hf] at b1
  cases b1
  have hk := (b3 rfl).2
  unfold knownK at hk
  exact ⟨hs x hx, ⟨by omega, by omega⟩, by omega, by omega⟩
 have hnl : ∀ x, x ∈ a → (nb x).length ≤ 2000 := fun x hx => by
  have h1 := vlF_len 7 x.Kind.toNat
  have h2 := vlF_len 7 x.Op.toNat
  have h3 := vlF_len 7 x.Text.length
  have h4 := vlF_len 7 x.Other.length
  have h5 := vlF_len 7 x.Kids.length
  have := hl x hx
  unfold nb
  simp only [List.length_append]
  omega
 have hfl : ∀ l : List SNode, (∀ x, x ∈ l → (nb x).length ≤ 2000) → (l.flatMap nb).length ≤ 2000 * l.length := fun l => by
  induction l with
  | nil => intro _; simp
  | cons x l ih =>
   intro h
   have h1 := h x (by simp)
   have h2 := ih fun y hy => h y (by simp [hy])
   rw [List.flatMap_cons, List.length_append, List.length_cons]
   omega
 have hfa := hfl a hnl
 have hv := var_vl N (by omega) a.length (by omega)
 have h1 := vlF_len 7 a.length
 have hsl := show_l2 N (by omega) a (by omega) hin a.length 0 N (vlF 7 a.length) (by omega) (by omega) (by omega)
 rw [List.drop_zero] at hsl
 have hshow : ms_ShowTree N a = some (vlF 7 a.length ++ a.flatMap nb) := by
  unfold ms_ShowTree
  rw [hT, Option.bind_some, hv]
  exact hsl
 obtain ⟨s, hse⟩ : ∃ s, s = vlF 7 a.length ++ a.flatMap nb := ⟨_, rfl⟩
 rw [← hse] at hshow
 have hsl2 : s.length ≤ 1000000 := by rw [hse, List.length_append]; omega
 refine ⟨s, hshow, hsl2, fun e => ?_, ?_⟩
 ·rw [e] at hse
  have := congrArg List.length hse
  rw [List.length_append] at this
  simp only [List.length_nil] at this
  omega
 ·unfold ms_ReadTree
  have hn := numS_at N (by omega) s 0 a.length (a.flatMap nb) (by omega) (by omega) (by omega) (by rw [List.drop_zero]; exact hse)
  have hn : ms_l43Num N s 0 = _ := hn
  rw [hn, Option.bind_some, Nat.zero_add]
  dsimp only
  have hr := readT N (by omega) s (by omega) a.length (vlF 7 a.length).length (by omega) t 0 (vlF 7 a.length).length (N - szT t) [] [] [] (fun x hx => hin x (by rw [hp]; exact hx)) (by omega) rfl (by simp) (by rw [hse, List.length_append]; omega) (by rw [hse, List.drop_left' rfl, List.append_nil, hp])
  rw [show szT t + (N - szT t) = N by omega] at hr
  refine Eq.trans hr ?_
  obtain ⟨m, hm⟩ : ∃ m, N - szT t = m + 1 := ⟨N - szT t - 1, by omega⟩
  rw [hm, ms_ReadTree_l1]
  have hz2 : szT t = a.length := by omega
  rw [← hp]
  have dlt : decide (((0 + szT t : Nat) : Int) < (a.length : Int)) = false := decide_eq_false (by omega)
  have dat : ((((vlF 7 a.length).length + (a.flatMap nb).length : Nat) : Int) != (s.length : Int)) = false := by rw [hse, List.length_append]; simp
  have dln : (((([] : List SNode) ++ a).length : Int) != (a.length : Int)) = false := by simp
  have dsa : (!(s == s)) = false := by simp
  rw [List.nil_append] at dln
  simp only [dlt, cond_false, Option.bind_some, dat, List.nil_append, dln, hT, Bool.not_true, hshow, dsa]
theorem read_right (N : Nat) (s : List UInt8) (r2 : Int × Int) : ∀ (f : Nat) (at_ i : Int) (out : List SNode) (E : List Int) (y : List SNode), ms_ReadTree_l1 N f (s, r2, at_, i, out, E) = some (y, true) → ms_TreeOk N y = some true ∧ ms_ShowTree N y = some s := by
 intro f
 induction f with
 | zero => intro at_ i out E y h; cases h
 | succ f ih =>
  intro at_ i out E y h
  rw [ms_ReadTree_l1] at h
  obtain ⟨c, _, h⟩ := Option.bind_eq_some_iff.1 h
  cases c with
  | true =>
   rw [cond_true] at h
   obtain ⟨x1, _, h⟩ := Option.bind_eq_some_iff.1 h
   obtain ⟨x2, _, h⟩ := Option.bind_eq_some_iff.1 h
   obtain ⟨x3, _, h⟩ := Option.bind_eq_some_iff.1 h
   obtain ⟨x4, _, h⟩ := Option.bind_eq_some_iff.1 h
   obtain ⟨x5, _, h⟩ := Option.bind_eq_some_iff.1 h
   obtain ⟨x6, _, h⟩ := Option.bind_eq_some_iff.1 h
   obtain ⟨x7, _, h⟩ := Option.bind_eq_some_iff.1 h
   obtain ⟨x8, _, h⟩ := Option.bind_eq_some_iff.1 h
   obtain ⟨x9, _, h⟩ := Option.bind_eq_some_iff.1 h
   exact ih _ _ _ _ y h
  | false =>
   rw [cond_false] at h
   obtain ⟨z, hz, h⟩ := Option.bind_eq_some_iff.1 h
   cases z with
   | true => rw [cond_true] at h; cases h
   | false =>
    rw [cond_false] at h
    cases h
    cases c1 : (at_ != (s.length : Int)) with
    | true => rw [c1] at hz; cases hz
    | false =>
     rw [c1, cond_false] at hz
     cases c2 : ((out.length : Int) != r2.1) with
     | true => rw [c2] at hz; cases hz
     | false =>
      rw [c2, cond_false] at hz
      obtain ⟨q, hq, hz⟩ := Option.bind_eq_some_iff.1 hz
      cases q with
      | false => cases hz
      | true =>
       rw [Bool.not_true, cond_false] at hz
       obtain ⟨w, hw, hz⟩ := Option.bind_eq_some_iff.1 hz
       refine ⟨hq, ?_⟩
       rw [hw]
       have : (w == s) = true := by simpa using hz
       rw [eq_of_beq this]
theorem readTree_right (N : Nat) (s : List UInt8) (y : List SNode) (h : ms_ReadTree N s = some (y, true)) : ms_TreeOk N y = some true ∧ ms_ShowTree N y = some s := by
 unfold ms_ReadTree at h
 obtain ⟨r, _, h⟩ := Option.bind_eq_some_iff.1 h
 exact read_right N s r N _ _ _ _ y h
theorem readTree_none (N : Nat) (hN : 101 < N) : ms_ReadTree N [] = some ([], false) := by
 unfold ms_ReadTree ms_l43Num
 have d : decide ((0 : Int) < 0) = false := rfl
 have c : cut ([] : List UInt8) 0 (([] : List UInt8).length : Int) = some [] := rfl
 have r : rdP [] = (0, 0) := rfl
 rw [d, cond_false, c, Option.bind_some, readVar_spec N [] (by omega), r]
 obtain ⟨m, rfl⟩ : ∃ m, N = m + 1 := ⟨N - 1, by omega⟩
 simp only [Option.bind_some]
 rw [show ((0 : Int) == 0) = true from rfl, cond_true, Option.bind_some]
 exact atR_neg (m + 1) m [] _ 0 [] []

end Go.Proofs.Tryz
