/-
  Plain lemmas on the models, part 5.
-/
import Derived.Test.YtllanibkffnogaaGreatDoorReP4
namespace Go.Proofs.Tryz
open Go.Av
set_option maxRecDepth 100000
set_option linter.unusedSimpArgs false
set_option linter.unusedVariables false

/-! ### numbers as bytes: reading them back -/
def dig : List UInt8 → Nat
  | [] => 0
  | b :: r => b.toNat % 128 + 128 * dig r

def vlF : Nat → Nat → List UInt8
  | 0, n => [bytI (n : Int)]
  | k + 1, n => if n < 128 then [bytI (n : Int)] else bytI ((128 + n % 128 : Nat) : Int) :: vlF k (n / 128)

def okV : Bool → List UInt8 → Bool
  | _, [] => false
  | first, [b] => decide (b.toNat < 128) && (first || decide (b.toNat ≠ 0))
  | _, b :: c :: r => decide (128 ≤ b.toNat) && okV false (c :: r)

theorem bytI_nat (n : Nat) (h : n < 256) : (bytI (n : Int)).toNat = n := by
  unfold bytI
  rw [show IntKind.wrap .u8 (n : Int) = (n : Int) by
    simp only [IntKind.wrap, IntKind.bits, IntKind.signed, Bool.false_and, Bool.false_eq_true, if_false]
    omega]
  rw [UInt8.toNat_ofNat']
  omega

theorem bytI_eq (n : Nat) (h : n < 256) (b : UInt8) : bytI (n : Int) = b ↔ b.toNat = n := by
  constructor
  · intro e; rw [← e, bytI_nat n h]
  · intro e
    apply UInt8.toNat_inj.1
    rw [bytI_nat n h, e]

theorem dig_lt : ∀ l : List UInt8, dig l < 128 ^ l.length
  | [] => by simp [dig]
  | b :: r => by
    have := dig_lt r
    rw [dig, List.length_cons, Nat.pow_succ]
    have : b.toNat % 128 < 128 := Nat.mod_lt _ (by omega)
    omega

theorem vlF_len : ∀ (k n : Nat), 1 ≤ (vlF k n).length ∧ (vlF k n).length ≤ k + 1
  | 0, n => by simp [vlF]
  | k + 1, n => by
    rw [vlF]
    split
    · simp
    · have := vlF_len k (n / 128)
      simp only [List.length_cons]; omega

/-- which bytes are a number's own -/
theorem vl_ok : ∀ (l : List UInt8) (first : Bool) (k : Nat), l.length ≤ k + 1 → ((l ≠ [] ∧ vlF k (dig l) = l ∧ (first = true ∨ dig l ≠ 0)) ↔ okV first l = true)
  | [], first, k, _ => by simp [okV]
  | [b], first, k, _ => by
    have hb := UInt8.toNat_lt b
    have hd : dig [b] = b.toNat % 128 := by simp [dig]
    have hlt : b.toNat % 128 < 128 := Nat.mod_lt _ (by omega)
    have hv : vlF k (dig [b]) = [bytI ((b.toNat % 128 : Nat) : Int)] := by
      rw [hd]
      cases k with
      | zero => rfl
      | succ k => rw [vlF, if_pos hlt]
    rw [hv, hd]
    simp only [okV, Bool.and_eq_true, Bool.or_eq_true, decide_eq_true_eq, List.cons.injEq, and_true, bytI_eq _ (show b.toNat % 128 < 256 by omega)]
    constructor
    · rintro ⟨_, h1, h2⟩
      exact ⟨by omega, h2.imp id fun h => by omega⟩
    · rintro ⟨h1, h2⟩
      exact ⟨by simp, by omega, h2.imp id fun h => by omega⟩
  | b :: c :: r, first, k, hl => by
    have hb := UInt8.toNat_lt b
    have hlt : b.toNat % 128 < 128 := Nat.mod_lt _ (by omega)
    simp only [List.length_cons] at hl
    obtain ⟨k, rfl⟩ : ∃ m, k = m + 1 := ⟨k - 1, by omega⟩
    have ih := vl_ok (c :: r) false k (by simp only [List.length_cons]; omega)
    have hd : dig (b :: c :: r) = b.toNat % 128 + 128 * dig (c :: r) := rfl
    simp only [okV, Bool.and_eq_true, decide_eq_true_eq, ← ih, Bool.false_eq_true, false_or]
    rw [hd]
    generalize dig (c :: r) = D
    by_cases h0 : D = 0
    · subst h0
      rw [vlF, if_pos (by omega)]
      simp
    · rw [vlF, if_neg (by omega)]
      rw [show (b.toNat % 128 + 128 * D) % 128 = b.toNat % 128 by omega, show (b.toNat % 128 + 128 * D) / 128 = D by omega]
      simp only [List.cons.injEq, bytI_eq _ (show 128 + b.toNat % 128 < 256 by omega)]
      constructor
      · rintro ⟨_, ⟨h1, h2⟩, _⟩
        exact ⟨by omega, by simp, h2, h0⟩
      · rintro ⟨h1, _, h2, _⟩
        exact ⟨by simp, ⟨by omega, h2⟩, .inr (by omega)⟩

/-- a number read from the front -/
def rd : Nat → Bool → List UInt8 → Option (Nat × Nat)
  | 0, _, _ => none
  | _ + 1, _, [] => none
  | f + 1, first, b :: r => if b.toNat < 128 then (if first = false ∧ b.toNat = 0 then none else some (b.toNat, 1)) else (rd f false r).map fun x => (b.toNat % 128 + 128 * x.1, x.2 + 1)

theorem rd_spec : ∀ (f : Nat) (first : Bool) (l : List UInt8) (n k : Nat), rd f first l = some (n, k) → 1 ≤ k ∧ k ≤ f ∧ k ≤ l.length ∧ n = dig (l.take k)
  | 0, first, l, n, k, h => by cases h
  | f + 1, first, [], n, k, h => by cases h
  | f + 1, first, b :: r, n, k, h => by
    rw [rd] at h
    split at h
    · rename_i hb
      split at h
      · cases h
      · cases h
        refine ⟨by omega, by omega, by simp, ?_⟩
        simp [dig]
        omega
    · obtain ⟨⟨n', k'⟩, h1, h2⟩ := Option.map_eq_some_iff.1 h
      cases h2
      obtain ⟨g1, g2, g3, g4⟩ := rd_spec f false r n' k' h1
      refine ⟨by omega, by omega, by simp only [List.length_cons]; omega, ?_⟩
      simp only [List.take_succ_cons, dig, g4]

theorem rd_ok : ∀ (f : Nat) (first : Bool) (l : List UInt8) (k : Nat), 1 ≤ k → k ≤ f → k ≤ l.length → (okV first (l.take k) = true ↔ rd f first l = some (dig (l.take k), k))
  | 0, first, l, k, h1, h2, _ => by omega
  | f + 1, first, [], k, h1, _, h3 => by simp at h3; omega
  | f + 1, first, b :: r, 1, _, _, _ => by
    rw [rd]
    simp only [List.take_succ_cons, List.take_zero, okV, Bool.and_eq_true, Bool.or_eq_true, decide_eq_true_eq]
    have hd : dig [b] = b.toNat % 128 := by simp [dig]
    rw [hd]
    by_cases hb : b.toNat < 128
    · rw [if_pos hb]
      by_cases h0 : first = false ∧ b.toNat = 0
      · rw [if_pos h0]
        obtain ⟨rfl, h0⟩ := h0
        simp [h0]
      · rw [if_neg h0]
        constructor
        · rintro _
          rw [Nat.mod_eq_of_lt hb]
        · rintro _
          refine ⟨hb, ?_⟩
          cases first with
          | true => exact .inl rfl
          | false => exact .inr fun h => h0 ⟨rfl, h⟩
    · rw [if_neg hb]
      constructor
      · rintro ⟨h, _⟩; exact absurd h hb
      · intro h
        obtain ⟨⟨n', k'⟩, h1, h2⟩ := Option.map_eq_some_iff.1 h
        have := (rd_spec f false r n' k' h1).1
        injection h2 with _ h2
        omega
  | f + 1, first, b :: r, k + 2, _, h2, h3 => by
    simp only [List.length_cons] at h3
    cases r with
    | nil => simp at h3
    | cons c r =>
      rw [rd]
      have ih := rd_ok f false (c :: r) (k + 1) (by omega) (by omega) (by simp only [List.length_cons] at h3 ⊢; omega)
      simp only [List.take_succ_cons] at ih ⊢
      simp only [okV, Bool.and_eq_true, decide_eq_true_eq, ih]
      by_cases hb : b.toNat < 128
      · rw [if_pos hb]
        constructor
        · rintro ⟨h, _⟩; omega
        · intro h
          split at h
          · cases h
          · injection h with h; injection h with _ h; omega
      · rw [if_neg hb]
        constructor
        · rintro ⟨_, h⟩
          rw [h]
          simp [dig]
        · intro h
          refine ⟨by omega, ?_⟩
          obtain ⟨⟨n', k'⟩, h1, h2⟩ := Option.map_eq_some_iff.1 h
          injection h2 with e1 e2
          have e2 : k' = k + 1 := by omega
          subst e2
          have := (rd_spec f false _ n' (k + 1) h1).2.2.2
          rw [h1]
          simp only [List.take_succ_cons] at this
          rw [this]

def rdP (l : List UInt8) : Int × Int := match rd 7 true l with
  | none => (0, 0)
  | some x => ((x.1 : Int), (x.2 : Int))

theorem var_l2 (N : Nat) : ∀ (k f n : Nat) (acc : List UInt8), n < 128 ^ (k + 1) → n < 562949953421312 → k < f → acc.length + k ≤ 1000 →
    m_spec_Var_l1 N f ((n : Int), acc) = some (acc ++ vlF k n) := by
  intro k
  induction k with
  | zero =>
    intro f n acc hn hb hf ha
    obtain ⟨f, rfl⟩ : ∃ m, f = m + 1 := ⟨f - 1, by omega⟩
    have h1 : decide ((n : Int) ≥ 128) = false := by simp; omega
    rw [m_spec_Var_l1, h1, cond_false, app_some (by simp; omega)]; rfl
  | succ k ih =>
    intro f n acc hn hb hf ha
    obtain ⟨f, rfl⟩ : ∃ m, f = m + 1 := ⟨f - 1, by omega⟩
    by_cases hlt : n < 128
    · have h1 : decide ((n : Int) ≥ 128) = false := by simp; omega
      rw [m_spec_Var_l1, h1, cond_false, app_some (by simp; omega), vlF, if_pos hlt]; rfl
    · have h1 : decide ((n : Int) ≥ 128) = true := by simp; omega
      have e1 : IntKind.wrap .i64 (Int.tdiv (n : Int) 128) = ((n / 128 : Nat) : Int) := by
        rw [show Int.tdiv (n : Int) 128 = ((n / 128 : Nat) : Int) from rfl, wrap64 (by omega) (by omega)]
      have e3 : IntKind.wrap .i64 (128 + Int.tmod (n : Int) 128) = ((128 + n % 128 : Nat) : Int) := by
        rw [show Int.tmod (n : Int) 128 = ((n % 128 : Nat) : Int) from rfl, wrap64 (by omega) (by omega)]; omega
      rw [m_spec_Var_l1, h1, cond_true, e3, app_some (by simp; omega), Option.bind_some, e1, ih f (n / 128) _ (by rw [Nat.div_lt_iff_lt_mul (by omega)]; rw [Nat.pow_succ] at hn; exact hn) (by omega) (by omega) (by simp; omega), vlF, if_neg hlt]
      simp

theorem var_vl (N : Nat) (hN : 100 < N) (n : Nat) (hn : n < 562949953421312) : m_spec_Var N (n : Int) = some (vlF 7 n) := by
  unfold m_spec_Var
  rw [l1In_is]
  have d : (decide ((n : Int) ≥ 0) && decide ((n : Int) ≤ 562949953421311)) = true := by simp; omega
  simp only [d, Option.bind_some, Bool.not_true, cond_false]
  exact var_l2 N 7 N n [] (by omega) hn (by omega) (by simp)

theorem dig_app : ∀ (a b : List UInt8), dig (a ++ b) = dig a + 128 ^ a.length * dig b
  | [], b => by simp [dig]
  | x :: a, b => by
    rw [List.cons_append, dig, dig, dig_app a b, List.length_cons, Nat.pow_succ, Nat.mul_add, Nat.mul_comm (128 ^ a.length) 128, Nat.mul_assoc]
    omega

theorem srv_l2 (N : Nat) (kb : (List UInt8 × Int) → Option (Int × Int)) (s : List UInt8) (k : Nat) (hk1 : 1 ≤ k) (hk : k ≤ 7) (hks : k ≤ s.length) (hN : 100 < N) : ∀ (f j : Nat), j < f → j ≤ k →
    m_spec_ReadVar_l2 N kb f (s, (k : Int), (dig ((s.take k).drop j) : Int), (j : Int) - 1) = if vlF 7 (dig (s.take k)) = s.take k then some ((dig (s.take k) : Int), (k : Int)) else kb (s, ((k + 1 : Nat) : Int)) := by
  intro f
  have hall : ∀ l : List UInt8, l.length ≤ 7 → dig l < 562949953421312 := fun l hl => by
    have h1 := dig_lt l
    have h2 : 128 ^ l.length ≤ 128 ^ 7 := Nat.pow_le_pow_right (by omega) hl
    have : (128 : Nat) ^ 7 = 562949953421312 := by decide
    omega
  induction f with
  | zero => intro j h; omega
  | succ f ih =>
    intro j hf hj
    rw [m_spec_ReadVar_l2]
    cases j with
    | zero =>
      have hd : decide ((((0 : Nat) : Int) - 1) ≥ 0) = false := by simp
      have htl : (s.take k).length ≤ 7 := by simp; omega
      rw [hd, cond_false, List.drop_zero, var_vl N hN _ (hall _ htl), Option.bind_some, show (0 : Int) = ((0 : Nat) : Int) from rfl, cut_nat (by omega) hks, Option.bind_some, List.drop_zero, Nat.sub_zero]
      by_cases he : vlF 7 (dig (s.take k)) = s.take k
      · have hb : (vlF 7 (dig (s.take k)) == s.take k) = true := by simpa using he
        rw [hb, cond_true, if_pos he]
      · have hb : (vlF 7 (dig (s.take k)) == s.take k) = false := by simpa using he
        rw [hb, cond_false, if_neg he, wrap64 (by omega) (by omega)]
        rfl
    | succ j =>
      have hjs : j < s.length := by omega
      have hjt : j < (s.take k).length := by simp; omega
      have hd : decide ((((j + 1 : Nat) : Int) - 1) ≥ 0) = true := by simp
      have hlen : ((s.take k).drop (j + 1)).length ≤ 6 := by simp; omega
      have hl2 : dig ((s.take k).drop (j + 1)) < 4398046511104 := by
        have h1 := dig_lt ((s.take k).drop (j + 1))
        have h2 : 128 ^ ((s.take k).drop (j + 1)).length ≤ 128 ^ 6 := Nat.pow_le_pow_right (by omega) hlen
        have : (128 : Nat) ^ 6 = 4398046511104 := by decide
        omega
      have hb := UInt8.toNat_lt s[j]
      rw [hd, cond_true, show (((j + 1 : Nat) : Int) - 1) = (j : Int) by omega, ix_nat hjs, Option.bind_some, wrap64 (n := ((dig ((s.take k).drop (j + 1)) : Nat) : Int) * 128) (by omega) (by omega), wrap64 (n := ((s[j].toNat : Nat) : Int)) (by omega) (by omega)]
      rw [show Int.tmod ((s[j].toNat : Nat) : Int) 128 = ((s[j].toNat % 128 : Nat) : Int) from rfl, wrap64 (n := (j : Int) - 1) (by omega) (by omega)]
      have hdr : (s.take k).drop j = s[j] :: (s.take k).drop (j + 1) := by
        rw [List.drop_eq_getElem_cons hjt, List.getElem_take]
      have he : IntKind.wrap .i64 ((dig ((s.take k).drop (j + 1)) : Int) * 128 + ((s[j].toNat % 128 : Nat) : Int)) = (dig ((s.take k).drop j) : Int) := by
        rw [hdr, dig, wrap64 (by omega) (by omega)]
        omega
      rw [he]
      exact ih j (by omega) (by omega)

theorem srv_l1 (N : Nat) (s : List UInt8) (hN : 100 < N) : ∀ (f k : Nat), 8 - k < f → 1 ≤ k → k ≤ 8 → (∀ j, 1 ≤ j → j < k → j ≤ s.length → okV true (s.take j) = false) → m_spec_ReadVar_l1 N f (s, (k : Int)) = some (rdP s) := by
  intro f
  induction f with
  | zero => intro k h; omega
  | succ f ih =>
    intro k hf h1 h8 hno
    rw [m_spec_ReadVar_l1]
    by_cases hk : k ≤ 7 ∧ k ≤ s.length
    · have d1 : decide ((k : Int) ≤ 7) = true := by simp; omega
      have d2 : decide ((k : Int) ≤ (s.length : Int)) = true := by simp; omega
      rw [d1, d2]
      simp only [cond_true, Option.bind_some]
      have := srv_l2 N (m_spec_ReadVar_l1 N f) s k h1 hk.1 hk.2 hN N k (by omega) (Nat.le_refl _)
      rw [show (s.take k).drop k = [] by simp] at this
      rw [wrap64 (by omega) (by omega)]
      refine Eq.trans this ?_
      have hl : (s.take k).length ≤ 7 + 1 := by simp; omega
      have hne : s.take k ≠ [] := by intro h; have := congrArg List.length h; rw [List.length_take, List.length_nil] at this; omega
      have hv := vl_ok (s.take k) true 7 hl
      have hr := rd_ok 7 true s k h1 hk.1 hk.2
      by_cases he : vlF 7 (dig (s.take k)) = s.take k
      · rw [if_pos he]
        have := hr.1 (hv.1 ⟨hne, he, .inl rfl⟩)
        unfold rdP
        rw [this]
      · rw [if_neg he]
        refine ih (k + 1) (by omega) (by omega) (by omega) fun j j1 j2 j3 => ?_
        by_cases hjk : j = k
        · subst hjk
          cases ho : okV true (s.take j) with
          | false => rfl
          | true => exact absurd (hv.2 ho).2.1 he
        · exact hno j j1 (by omega) j3
    · have d : (bif decide ((k : Int) ≤ 7) then some (decide ((k : Int) ≤ (s.length : Int))) else some false) = some false := by
        by_cases h7 : k ≤ 7
        · have d1 : decide ((k : Int) ≤ 7) = true := by simp; omega
          have d2 : decide ((k : Int) ≤ (s.length : Int)) = false := by simp; omega
          rw [d1, d2]; rfl
        · have d1 : decide ((k : Int) ≤ 7) = false := by simp; omega
          rw [d1]; rfl
      rw [d]
      simp only [Option.bind_some, cond_false]
      unfold rdP
      cases hr : rd 7 true s with
      | none => rfl
      | some x =>
        obtain ⟨g1, g2, g3, g4⟩ := rd_spec 7 true s x.1 x.2 hr
        have := hno x.2 g1 (by omega) g3
        rw [(rd_ok 7 true s x.2 g1 g2 g3).2 (by rw [hr, ← g4])] at this
        cases this

theorem readVar_spec (N : Nat) (s : List UInt8) (hN : 100 < N) : m_spec_ReadVar N s = some (rdP s) := by
  unfold m_spec_ReadVar
  exact srv_l1 N s hN N 1 (by omega) (by omega) (by omega) fun j j1 j2 => by omega

theorem and127b (b : UInt8) : bits .and .u8 ((b.toNat : Nat) : Int) 127 = ((b.toNat % 128 : Nat) : Int) := by
  have hb := UInt8.toNat_lt b
  have e : (BitVec.ofInt 8 ((b.toNat : Nat) : Int) &&& BitVec.ofInt 8 127).toNat = b.toNat % 128 := by
    rw [BitVec.toNat_and, BitVec.ofInt_natCast, BitVec.toNat_ofNat, show BitVec.ofInt 8 127 = BitVec.ofNat 8 127 from rfl, BitVec.toNat_ofNat, Nat.mod_eq_of_lt (by omega : b.toNat < 2 ^ 8)]
    exact Nat.and_two_pow_sub_one_eq_mod b.toNat 7
  show IntKind.wrap .u8 (((BitVec.ofInt 8 ((b.toNat : Nat) : Int) &&& BitVec.ofInt 8 127).toNat : Nat) : Int) = _
  rw [e]
  simp only [IntKind.wrap, IntKind.bits, IntKind.signed, Bool.false_and, Bool.false_eq_true, if_false]
  omega

theorem or_add (i a n : Nat) (hn : n < 2 ^ i) (h : n + 2 ^ i * a < 9223372036854775808) : bits .or .i64 (n : Int) ((2 ^ i * a : Nat) : Int) = ((n + 2 ^ i * a : Nat) : Int) := by
  have e : (BitVec.ofInt 64 (n : Int) ||| BitVec.ofInt 64 ((2 ^ i * a : Nat) : Int)).toNat = n + 2 ^ i * a := by
    rw [BitVec.toNat_or, BitVec.ofInt_natCast, BitVec.toNat_ofNat, BitVec.ofInt_natCast, BitVec.toNat_ofNat, Nat.mod_eq_of_lt (by omega), Nat.mod_eq_of_lt (by omega), Nat.or_comm, ← Nat.two_pow_add_eq_or_of_lt hn, Nat.add_comm]
  show IntKind.wrap .i64 (((BitVec.ofInt 64 (n : Int) ||| BitVec.ofInt 64 ((2 ^ i * a : Nat) : Int)).toNat : Nat) : Int) = _
  rw [e, wrap64 (by omega) (by omega)]

theorem irv_l2 (N : Nat) (s : List UInt8) : ∀ (f j : Nat), 7 - j < f → j ≤ 7 → j ≤ s.length →
    m_impl_ReadVar_l2 N f (s, (dig (s.take j) : Int), (j : Int)) = match rd (7 - j) (decide (j = 0)) (s.drop j) with
      | none => some (0, 0)
      | some x => some (((dig (s.take j) + 128 ^ j * x.1 : Nat) : Int), ((j + x.2 : Nat) : Int)) := by
  intro f
  induction f with
  | zero => intro j h; omega
  | succ f ih =>
    intro j hf hj hjs
    rw [m_impl_ReadVar_l2]
    have hmin : (if 7 < (s.length : Int) then (7 : Int) else (s.length : Int)) = ((min 7 s.length : Nat) : Int) := by
      split <;> omega
    rw [hmin]
    by_cases h : j < 7 ∧ j < s.length
    · have d1 : decide ((j : Int) < ((min 7 s.length : Nat) : Int)) = true := by simp; omega
      have hb := UInt8.toNat_lt s[j]
      have hdl : (s.take j).length = j := by simp; omega
      have hdg := dig_lt (s.take j)
      rw [hdl] at hdg
      have h128 : (128 : Nat) ^ j = 2 ^ (7 * j) := by rw [Nat.pow_mul]
      have hpow : (128 : Nat) ^ j ≤ 128 ^ 6 := Nat.pow_le_pow_right (by omega) (by omega)
      have h6 : (128 : Nat) ^ 6 = 4398046511104 := by decide
      have hx : shlO .i64 (IntKind.wrap .i64 (bits .and .u8 ((s[j].toNat : Nat) : Int) 127)) (IntKind.wrap .u64 (IntKind.wrap .i64 (7 * (j : Int)))) = some (((2 ^ (7 * j) * (s[j].toNat % 128) : Nat)) : Int) := by
        rw [and127b, wrap64 (n := ((s[j].toNat % 128 : Nat) : Int)) (by omega) (by omega), wrap64 (n := 7 * (j : Int)) (by omega) (by omega)]
        have hu : IntKind.wrap .u64 (7 * (j : Int)) = ((7 * j : Nat) : Int) := by
          simp only [IntKind.wrap, IntKind.bits, IntKind.signed, Bool.false_and, Bool.false_eq_true, if_false]
          omega
        rw [hu]
        unfold shlO
        have hneg : decide (((7 * j : Nat) : Int) < 0) = false := by simp; omega
        rw [hneg, cond_false, Int.toNat_natCast, show min (7 * j) IntKind.i64.bits = 7 * j by simp only [IntKind.bits]; omega]
        have hm : ((s[j].toNat % 128 : Nat) : Int) * 2 ^ (7 * j) = ((2 ^ (7 * j) * (s[j].toNat % 128) : Nat) : Int) := by
          rw [Int.natCast_mul, Int.natCast_pow, Int.mul_comm]; rfl
        rw [hm]
        have hle : 2 ^ (7 * j) * (s[j].toNat % 128) ≤ 4398046511104 * 128 := by
          rw [← h128, ← h6]
          exact Nat.mul_le_mul hpow (by have := Nat.mod_lt s[j].toNat (show 128 > 0 by omega); omega)
        rw [wrap64 (by omega) (by omega)]
      have hle : 2 ^ (7 * j) * (s[j].toNat % 128) ≤ 4398046511104 * 128 := by
        rw [← h128, ← h6]
        exact Nat.mul_le_mul hpow (by have := Nat.mod_lt s[j].toNat (show 128 > 0 by omega); omega)
      have hor : bits .or .i64 ((dig (s.take j) : Nat) : Int) ((2 ^ (7 * j) * (s[j].toNat % 128) : Nat) : Int) = ((dig (s.take (j + 1)) : Nat) : Int) := by
        rw [or_add _ _ _ (by rw [← h128]; exact hdg) (by omega)]
        rw [List.take_add_one, List.getElem?_eq_getElem h.2]
        simp only [Option.toList_some]
        rw [dig_app, hdl, h128]
        simp [dig]
      rw [d1, cond_true, ix_nat h.2, Option.bind_some, hx, Option.bind_some, Option.bind_some, hor]
      rw [drop_cons h.2, show 7 - j = (6 - j) + 1 by omega, rd]
      by_cases hlow : s[j].toNat < 128
      · have d2 : decide (((s[j].toNat : Nat) : Int) < 128) = true := by simp; omega
        rw [d2, cond_true, if_pos hlow]
        have hdg2 : dig (s.take (j + 1)) = dig (s.take j) + 128 ^ j * s[j].toNat := by
          rw [List.take_add_one, List.getElem?_eq_getElem h.2]
          simp only [Option.toList_some]
          rw [dig_app, hdl]
          simp [dig]
          rw [Nat.mod_eq_of_lt hlow]
        by_cases hj0 : j = 0
        · subst hj0
          have d3 : decide (((0 : Nat) : Int) > 0) = false := by simp
          rw [d3]
          simp only [cond_false, Option.bind_some, decide_true, Bool.true_eq_false, false_and, if_false, hdg2]
          rfl
        · have d3 : decide ((j : Int) > 0) = true := by simp; omega
          have d4 : decide (j = 0) = false := by simpa using hj0
          rw [d3, d4]
          simp only [cond_true, Option.bind_some, true_and]
          by_cases hz : s[j].toNat = 0
          · have d5 : (((s[j].toNat : Nat) : Int) == 0) = true := by simp; omega
            rw [d5, cond_true, if_pos hz]
            rfl
          · have d5 : (((s[j].toNat : Nat) : Int) == 0) = false := by simp; omega
            rw [d5, cond_false, if_neg hz, wrap64 (by omega) (by omega), hdg2]
            rfl
      · have d2 : decide (((s[j].toNat : Nat) : Int) < 128) = false := by simp; omega
        rw [d2, cond_false, if_neg hlow, wrap64 (by omega) (by omega)]
        have := ih (j + 1) (by omega) (by omega) (by omega)
        refine Eq.trans this ?_
        rw [show decide (j + 1 = 0) = false by simp, show 7 - (j + 1) = 6 - j by omega]
        cases hr : rd (6 - j) false (s.drop (j + 1)) with
        | none => rfl
        | some x =>
          simp only [Option.map_some]
          have hdg2 : dig (s.take (j + 1)) = dig (s.take j) + 128 ^ j * (s[j].toNat % 128) := by
            rw [List.take_add_one, List.getElem?_eq_getElem h.2]
            simp only [Option.toList_some]
            rw [dig_app, hdl]
            simp [dig]
          rw [hdg2, Nat.pow_succ, Nat.mul_add, Nat.mul_assoc, Nat.add_assoc, Nat.add_assoc, Nat.add_comm 1]
    · have d1 : decide ((j : Int) < ((min 7 s.length : Nat) : Int)) = false := by simp; omega
      rw [d1, cond_false]
      have : rd (7 - j) (decide (j = 0)) (s.drop j) = none := by
        by_cases h7 : j < 7
        · rw [drop_nil (by omega), show 7 - j = (6 - j) + 1 by omega]
          rfl
        · rw [show 7 - j = 0 by omega]
          rfl
      rw [this]
      rfl

theorem readVar_impl (N : Nat) (s : List UInt8) (hN : 100 < N) : m_impl_ReadVar N s = some (rdP s) := by
  unfold m_impl_ReadVar
  have := irv_l2 N s N 0 (by omega) (by omega) (by omega)
  simp only [List.take_zero, dig, List.drop_zero, Nat.sub_zero, decide_true, Nat.zero_add, Nat.pow_zero, Nat.one_mul] at this
  refine Eq.trans this ?_
  unfold rdP
  cases rd 7 true s <;> rfl

end Go.Proofs.Tryz
