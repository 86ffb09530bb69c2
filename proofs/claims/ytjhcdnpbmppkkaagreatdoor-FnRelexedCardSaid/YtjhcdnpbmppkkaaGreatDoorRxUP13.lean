/-
 Plain lemmas on the models, part 13.
-/
import Derived.Test.YtjhcdnpbmppkkaaGreatDoorRxUP12
namespace Go.Proofs.Tryz
open Go.Av
set_option maxRecDepth 100000
set_option linter.unusedSimpArgs false
set_option linter.unusedVariables false

theorem cut_out {α : Type} {l r : List α} {a b : Int} (h : cut l a b = some r) : 0 ≤ a ∧ a ≤ b ∧ b ≤ (l.length : Int) ∧ (r.length : Int) = b - a := by
 unfold cut at h
 split at h
 ·rename_i hc
  cases h
  refine ⟨hc.1, hc.2.1, hc.2.2, ?_⟩
  obtain ⟨m, rfl⟩ := Int.eq_ofNat_of_zero_le hc.1
  obtain ⟨n, rfl⟩ := Int.eq_ofNat_of_zero_le (show 0 ≤ b by omega)
  have e : cut l (m : Int) (n : Int) = some ((l.drop m).take (n - m)) := cut_nat (by omega) (by omega)
  have h2 : cut l (m : Int) (n : Int) = some _ := if_pos hc
  rw [e] at h2
  rw [← Option.some.inj h2, List.length_take, List.length_drop]
  omega
 ·cases h
section
set_option linter.unusedSectionVars false
variable {s x : List UInt8} {c : Nat} (hs : s.length ≤ 3000) (hx : x.length ≤ 3000) (hcs : c ≤ s.length) (hcx : c ≤ x.length) (hag : s.take c = x.take c) (N : Nat) (hN : 5000 < N)
include hs hx hcs hcx hag hN
theorem ag_get {j : Nat} (h : j < c) : s[j]? = x[j]? := by
 have := congrArg (fun l => l[j]?) hag
 simpa [List.getElem?_take, h] using this
theorem ag_at {j : Nat} (h : j < c) : atB x j = atB s j := by
 unfold atB
 rw [ag_get hs hx hcs hcx hag N hN h]
theorem ag_cut {i e : Nat} (h1 : i ≤ e) (h2 : e ≤ c) : cut x (i : Int) (e : Int) = cut s (i : Int) (e : Int) := by
 rw [cut_nat h1 (by omega), cut_nat h1 (by omega)]
 congr 1
 have key : ∀ l : List UInt8, (l.drop i).take (e - i) = ((l.take c).drop i).take (e - i) := fun l => by
  rw [List.drop_take, List.take_take, Nat.min_eq_left (by omega)]
 rw [key x, key s, hag]
theorem dig_ge : ∀ (n i : Nat) (r : Int), i ≤ s.length + 1 → ms_l4Digits_l1 N n (s, (i : Int)) = some r → ∃ e : Nat, r = (e : Int) ∧ i ≤ e ∧ e ≤ s.length + 1 := by
 intro n
 induction n with
 | zero => intro i r _ h; cases h
 | succ n ih =>
  intro i r hi h
  rw [ms_l4Digits_l1, l4Byte_is, Option.bind_some, dig_spec, Option.bind_some] at h
  cases hd : digB (atB s i) with
  | false => rw [hd] at h; cases h; exact ⟨i, rfl, by omega, hi⟩
  | true =>
   have hlt := digB_in hd
   rw [hd, cond_true, step_i (s := s) (by omega) (by omega)] at h
   obtain ⟨e, e1, e2, e3⟩ := ih (i + 1) r (by omega) h
   exact ⟨e, e1, by omega, e3⟩
theorem dig_loc : ∀ (n i e : Nat), i ≤ s.length + 1 → e < c → ms_l4Digits_l1 N n (s, (i : Int)) = some (e : Int) → ms_l4Digits_l1 N n (x, (i : Int)) = some (e : Int) := by
 intro n
 induction n with
 | zero => intro i e _ _ h; cases h
 | succ n ih =>
  intro i e hi hc h
  have hie : i ≤ e := by
   obtain ⟨e', q1, q2, _⟩ := dig_ge hs hx hcs hcx hag N hN (n + 1) i _ hi h
   omega
  rw [ms_l4Digits_l1, l4Byte_is, Option.bind_some, dig_spec, Option.bind_some] at h ⊢
  rw [ag_at hs hx hcs hcx hag N hN (show i < c by omega)]
  cases hd : digB (atB s i) with
  | false => rw [hd] at h; exact h
  | true =>
   have hlt := digB_in hd
   rw [hd, cond_true, step_i (s := s) (by omega) (by omega)] at h
   rw [cond_true, step_i (s := s) (by omega) (by omega)]
   exact ih (i + 1) e (by omega) hc h
theorem k3_loc {y j : Nat} (hyj : y ≤ j) (hj : j ≤ y + 2) (hjl : j ≤ s.length + 1) {e : Nat} (he : e + 2 < c) (hye : y ≤ e) (h : ms_NumEnd_k3 N (s, (y : Int), (j : Int)) = some (e : Int)) : ms_NumEnd_k3 N (x, (y : Int), (j : Int)) = some (e : Int) := by
 unfold ms_NumEnd_k3 at h ⊢
 simp only at h ⊢
 obtain ⟨r, hr, h⟩ := bind_some h
 obtain ⟨r', rfl, q2, q3⟩ := dig_ge hs hx hcs hcx hag N hN N j r hjl hr
 rcases cond_some h with ⟨hc, h⟩ | ⟨hc, h'⟩
 ·rw [hr, Option.bind_some] at h
  have e1 : r' = e := by have := Option.some.inj h; omega
  subst e1
  have hr2 : ms_l4Digits N x (j : Int) = some (r' : Int) := dig_loc hs hx hcs hcx hag N hN N j r' hjl (by omega) hr
  rw [hr2, Option.bind_some, hc, cond_true, Option.bind_some]
 ·have hle : r' ≤ j := by have := of_decide_eq_false hc; omega
  have e1 : r' = j := by omega
  subst e1
  unfold ms_NumEnd_k2 at h' ⊢
  simp only at h' ⊢
  have e2 : y = e := by have := Option.some.inj h'; omega
  have hr2 : ms_l4Digits N x (r' : Int) = some (r' : Int) := dig_loc hs hx hcs hcx hag N hN N r' r' hjl (by omega) hr
  rw [hr2, Option.bind_some, hc, cond_false, e2]
theorem k1_loc {a y e : Nat} (hyl : y ≤ s.length + 1) (he : e + 2 < c) (h : ms_NumEnd_k1 N (s, (a : Int), (y : Int)) = some (e : Int)) : ms_NumEnd_k1 N (x, (a : Int), (y : Int)) = some (e : Int) ∧ y ≤ e := by
 have hye : y ≤ e := by
  have k3 : ∀ j : Nat, y ≤ j → j ≤ s.length + 1 → ms_NumEnd_k3 N (s, (y : Int), (j : Int)) = some (e : Int) → y ≤ e := fun j hj hjl h => by
   unfold ms_NumEnd_k3 at h
   obtain ⟨r, hr, h⟩ := bind_some h
   obtain ⟨r', rfl, q2, q3⟩ := dig_ge hs hx hcs hcx hag N hN N j r hjl hr
   rcases cond_some h with ⟨_, h⟩ | ⟨_, h⟩
   ·rw [hr, Option.bind_some] at h
    have := Option.some.inj h; omega
   ·unfold ms_NumEnd_k2 at h
    have := Option.some.inj h; omega
  unfold ms_NumEnd_k1 at h
  rcases cond_some h with ⟨_, h⟩ | ⟨_, h⟩
  ·have := Option.some.inj h; omega
  ·obtain ⟨b, hb, h⟩ := bind_some h
   simp only [l4Byte_is, Option.bind_some] at hb
   rcases cond_some h with ⟨hc, h⟩ | ⟨_, h⟩
   ·subst hc
    have hlt : y < s.length := atB_in (by
     rcases cond_some hb with ⟨g, _⟩ | ⟨_, g⟩
     ·have : atB s y = 101 := by simpa using g
      rw [this]; decide
     ·have := Option.some.inj g
      have : atB s y = 69 := by simpa using this
      rw [this]; decide)
    obtain ⟨b2, hb2, h⟩ := bind_some h
    rw [step_i (s := s) (by omega) (by omega)] at h hb2
    simp only [l4Byte_is, Option.bind_some] at hb2
    rcases cond_some h with ⟨hc, h⟩ | ⟨_, h⟩
    ·subst hc
     have hlt2 : y + 1 < s.length := atB_in (by
      rcases cond_some hb2 with ⟨g, _⟩ | ⟨_, g⟩
      ·have : atB s (y + 1) = 43 := by simpa using g
       rw [this]; decide
      ·have := Option.some.inj g
       have : atB s (y + 1) = 45 := by simpa using this
       rw [this]; decide)
     rw [step_i (s := s) (by omega) (by omega)] at h
     exact k3 (y + 1 + 1) (by omega) (by omega) h
    ·exact k3 (y + 1) (by omega) (by omega) h
   ·unfold ms_NumEnd_k2 at h
    have := Option.some.inj h; omega
 refine ⟨?_, hye⟩
 have a0 := ag_at hs hx hcs hcx hag N hN (show y < c by omega)
 have a1 := ag_at hs hx hcs hcx hag N hN (show y + 1 < c by omega)
 unfold ms_NumEnd_k1 at h ⊢
 simp only [l4Byte_is, Option.bind_some, step_i (s := s) (by omega) (show y ≤ s.length + 1 by omega), step_i (s := x) (by omega) (show y ≤ x.length + 1 by omega), step_i (s := s) (by omega) (show y + 1 ≤ s.length + 1 by omega)] at h ⊢
 rw [a0, a1]
 rcases cond_some h with ⟨h1, h⟩ | ⟨h1, h⟩
 ·have := Option.some.inj h; omega
 ·rw [h1, cond_false]
  obtain ⟨b, hb, h⟩ := bind_some h
  rw [hb, Option.bind_some]
  cases b with
  | false => exact h
  | true =>
   rw [cond_true] at h ⊢
   obtain ⟨b2, hb2, h⟩ := bind_some h
   rw [hb2, Option.bind_some]
   cases b2 with
   | true =>
    rw [cond_true] at h ⊢
    exact k3_loc hs hx hcs hcx hag N hN (by omega) (by omega) (by omega) he hye h
   | false =>
    rw [cond_false] at h ⊢
    exact k3_loc hs hx hcs hcx hag N hN (by omega) (by omega) (by omega) he hye h
theorem num_loc {i e : Nat} (hi : i ≤ s.length) (he : e + 2 < c) (h : ms_NumEnd N s (i : Int) = some (e : Int)) : ms_NumEnd N x (i : Int) = some (e : Int) := by
 unfold ms_NumEnd at h ⊢
 have h0 : decide ((i : Int) < 0) = false := decide_eq_false (by omega)
 rw [h0, cond_false] at h ⊢
 obtain ⟨r, hr, h⟩ := bind_some h
 obtain ⟨e1, rfl, q2, q3⟩ := dig_ge hs hx hcs hcx hag N hN N i r (by omega) hr
 rw [l4Byte_is, Option.bind_some] at h
 have hle : e1 ≤ e := by
  rcases cond_some h with ⟨hc, h⟩ | ⟨_, h⟩
  ·have h46 : atB s e1 = 46 := by simpa using hc
   have hlt : e1 < s.length := atB_in (by rw [h46]; decide)
   rw [step_i (s := s) (by omega) (by omega)] at h
   obtain ⟨r2, hr2, h⟩ := bind_some h
   obtain ⟨e2, rfl, p2, p3⟩ := dig_ge hs hx hcs hcx hag N hN N (e1 + 1) r2 (by omega) hr2
   obtain ⟨y, _, h⟩ := bind_some h
   rcases cond_some h with ⟨_, h⟩ | ⟨_, h⟩
   ·have := Option.some.inj h; omega
   ·have := (k1_loc hs hx hcs hcx hag N hN p3 he h).2; omega
  ·exact (k1_loc hs hx hcs hcx hag N hN q3 he h).2
 have hr2 : ms_l4Digits N x (i : Int) = some (e1 : Int) := dig_loc hs hx hcs hcx hag N hN N i e1 (by omega) (by omega) hr
 rw [hr2, Option.bind_some, l4Byte_is, Option.bind_some, ag_at hs hx hcs hcx hag N hN (show e1 < c by omega)]
 cases hc : (atB s e1 == 46) with
 | false =>
  rw [hc, cond_false] at h
  rw [cond_false]
  exact (k1_loc hs hx hcs hcx hag N hN q3 he h).1
 | true =>
  rw [hc, cond_true, step_i (s := s) (by omega) (by omega)] at h
  rw [cond_true, step_i (s := s) (by omega) (by omega)]
  obtain ⟨r2, hr2, h⟩ := bind_some h
  have h46 : atB s e1 = 46 := by simpa using hc
  have hlt : e1 < s.length := atB_in (by rw [h46]; decide)
  obtain ⟨e2, rfl, p2, p3⟩ := dig_ge hs hx hcs hcx hag N hN N (e1 + 1) r2 (by omega) hr2
  obtain ⟨y, hy, h⟩ := bind_some h
  rcases cond_some h with ⟨_, h⟩ | ⟨hyf, h⟩
  ·have := Option.some.inj h; omega
  ·have hk := k1_loc hs hx hcs hcx hag N hN p3 he h
   have hr3 : ms_l4Digits N x ((e1 + 1 : Nat) : Int) = some (e2 : Int) := dig_loc hs hx hcs hcx hag N hN N (e1 + 1) e2 (by omega) (by omega) hr2
   rw [hr3, Option.bind_some, hy, Option.bind_some, hyf, cond_false]
   exact hk.1
theorem quo_loc (q : Int) : ∀ (n i e : Nat), i ≤ s.length + 1 → e ≤ c → ms_l4Quoted_l1 N n (s, q, (i : Int)) = some (e : Int) → ms_l4Quoted_l1 N n (x, q, (i : Int)) = some (e : Int) ∧ i < e := by
 intro n
 induction n with
 | zero => intro i e _ _ h; cases h
 | succ n ih =>
  intro i e hi he h
  rw [ms_l4Quoted_l1] at h
  by_cases hlt : i < s.length
  ·rw [lt_true hlt, cond_true, ix_nat hlt, Option.bind_some, wrap_byte, ← atB_lt hlt] at h
   have head : i < e → ms_l4Quoted_l1 N (n + 1) (x, q, (i : Int)) = (bif (atB s i == q) then some (IntKind.wrap .i64 ((i : Int) + 1)) else (bif (atB s i == 10) then some (-1) else (bif (atB s i == 92) then (ms_l4Byte x (IntKind.wrap .i64 ((i : Int) + 1))).bind fun r62 => bif (r62 == 10) then some (-1) else (ms_l4Quoted_k2 N (ms_l4Quoted_l1 N n) (x, q, (IntKind.wrap .i64 ((i : Int) + 1)))) else (ms_l4Quoted_k2 N (ms_l4Quoted_l1 N n) (x, q, (i : Int)))))) := fun hie => by
    have hlx : i < x.length := by omega
    rw [ms_l4Quoted_l1, lt_true hlx, cond_true, ix_nat hlx, Option.bind_some, wrap_byte, ← atB_lt hlx, ag_at hs hx hcs hcx hag N hN (show i < c by omega)]
   rcases cond_some h with ⟨h1, h⟩ | ⟨h1, h⟩
   ·rw [step_i (s := s) (by omega) (by omega)] at h
    have e1 : i + 1 = e := by have := Option.some.inj h; omega
    refine ⟨?_, by omega⟩
    rw [head (by omega), h1, cond_true, step_i (s := s) (by omega) (by omega), e1]
   ·rcases cond_some h with ⟨_, h⟩ | ⟨h2, h⟩
    ·have := Option.some.inj h; omega
    ·rw [step_i (s := s) (by omega) (by omega)] at h
     rcases cond_some h with ⟨h3, h⟩ | ⟨h3, h⟩
     ·rw [l4Byte_is, Option.bind_some] at h
      rcases cond_some h with ⟨_, h⟩ | ⟨h4, h⟩
      ·have := Option.some.inj h; omega
      ·unfold ms_l4Quoted_k2 at h
       simp only at h
       rw [step_i (s := s) (by omega) (by omega)] at h
       obtain ⟨g1, g2⟩ := ih (i + 1 + 1) e (by omega) he h
       refine ⟨?_, by omega⟩
       rw [head (by omega), h1, h2, h3, cond_false, cond_false, cond_true, step_i (s := s) (by omega) (by omega), l4Byte_is, Option.bind_some, ag_at hs hx hcs hcx hag N hN (show i + 1 < c by omega), h4, cond_false]
       unfold ms_l4Quoted_k2
       simp only
       rw [step_i (s := s) (by omega) (by omega)]
       exact g1
     ·unfold ms_l4Quoted_k2 at h
      simp only at h
      rw [step_i (s := s) (by omega) (by omega)] at h
      obtain ⟨g1, g2⟩ := ih (i + 1) e (by omega) he h
      refine ⟨?_, by omega⟩
      rw [head (by omega), h1, h2, h3, cond_false, cond_false, cond_false]
      unfold ms_l4Quoted_k2
      simp only
      rw [step_i (s := s) (by omega) (by omega)]
      exact g1
  ·rw [lt_false hlt, cond_false] at h
   have := Option.some.inj h; omega
theorem quoted_loc (q : Int) {i e : Nat} (hi : i < s.length) (he : e ≤ c) (h : ms_l4Quoted N s (i : Int) q = some (e : Int)) : ms_l4Quoted N x (i : Int) q = some (e : Int) := by
 unfold ms_l4Quoted at h ⊢
 rw [l4Byte_is, Option.bind_some] at h ⊢
 rcases cond_some h with ⟨_, h⟩ | ⟨h1, h⟩
 ·have := Option.some.inj h; omega
 ·rw [step_i (s := s) (by omega) (by omega)] at h
  obtain ⟨g1, g2⟩ := quo_loc hs hx hcs hcx hag N hN q N (i + 1) e (by omega) he h
  rw [ag_at hs hx hcs hcx hag N hN (show i < c by omega), h1, cond_false, step_i (s := s) (by omega) (by omega)]
  exact g1
theorem name_loc : ∀ (n i e : Nat), i ≤ s.length + 1 → e < c → ms_NameEnd_l1 N n (s, (i : Int)) = some (e : Int) → ms_NameEnd_l1 N n (x, (i : Int)) = some (e : Int) ∧ i ≤ e := by
 intro n
 induction n with
 | zero => intro i e _ _ h; cases h
 | succ n ih =>
  intro i e hi hc h
  rw [ms_NameEnd_l1, l4Byte_is, Option.bind_some, word_spec, Option.bind_some] at h
  cases hd : wordB (atB s i) with
  | false =>
   rw [hd, cond_false] at h
   have e1 : i = e := by have := Option.some.inj h; omega
   rw [ms_NameEnd_l1, l4Byte_is, Option.bind_some, word_spec, Option.bind_some, ag_at hs hx hcs hcx hag N hN (show i < c by omega), hd, cond_false]
   exact ⟨h, by omega⟩
  | true =>
   have hlt := wordB_in hd
   rw [hd, cond_true, step_i (s := s) (by omega) (by omega)] at h
   obtain ⟨g1, g2⟩ := ih (i + 1) e (by omega) hc h
   rw [ms_NameEnd_l1, l4Byte_is, Option.bind_some, word_spec, Option.bind_some, ag_at hs hx hcs hcx hag N hN (show i < c by omega), hd, cond_true, step_i (s := s) (by omega) (by omega)]
   exact ⟨g1, by omega⟩
theorem fl_loc : ∀ (k j : Nat), c - j ≤ k → j + (fl (s.drop j)).length < c → fl (x.drop j) = fl (s.drop j) := by
 intro k
 induction k with
 | zero => intro j h1 h2; omega
 | succ k ih =>
  intro j h1 h2
  have hjs : j < s.length := by omega
  have hjx : j < x.length := by omega
  have hb : x[j] = s[j] := by
   have := ag_get hs hx hcs hcx hag N hN (show j < c by omega)
   rw [List.getElem?_eq_getElem hjs, List.getElem?_eq_getElem hjx] at this
   exact (Option.some.inj this).symm
  rw [drop_cons hjs] at h2
  rw [drop_cons hjs, drop_cons hjx, hb]
  by_cases h10 : s[j] = 10
  ·rw [h10, fl_end, fl_end]
  ·rw [fl_cons h10, List.length_cons] at h2
   rw [fl_cons h10, fl_cons h10, ih (j + 1) (by omega) (by omega)]
theorem op_loc {i : Nat} (hi : i + 2 ≤ c) : ∀ (n j : Nat) (k b : Int), ms_OpAt_l1 N n (x, (i : Int), tab_signs, k, b, (j : Int)) = ms_OpAt_l1 N n (s, (i : Int), tab_signs, k, b, (j : Int)) := by
 have h2 : ∀ e, e ∈ tab_signs → e.length ≤ 2 := by decide
 have hl : tab_signs.length = 39 := rfl
 intro n
 induction n with
 | zero => intro j k b; rfl
 | succ n ih =>
  intro j k b
  rw [ms_OpAt_l1, ms_OpAt_l1]
  by_cases hj : j < tab_signs.length
  ·rw [lt_true hj, cond_true, cond_true, ix_nat hj, Option.bind_some, Option.bind_some]
   have he := h2 _ (List.getElem_mem hj)
   generalize tab_signs[j] = e at he ⊢
   have g0 : decide ((i : Int) ≥ 0) = true := by simp
   have gs : decide ((i : Int) ≤ (s.length : Int)) = true := decide_eq_true (by omega)
   have gx : decide ((i : Int) ≤ (x.length : Int)) = true := decide_eq_true (by omega)
   have ws : IntKind.wrap .i64 ((s.length : Int) - i) = (s.length : Int) - i := wrap64 (by omega) (by omega)
   have wx : IntKind.wrap .i64 ((x.length : Int) - i) = (x.length : Int) - i := wrap64 (by omega) (by omega)
   have ls : decide ((e.length : Int) ≤ (s.length : Int) - i) = true := decide_eq_true (by omega)
   have lx : decide ((e.length : Int) ≤ (x.length : Int) - i) = true := decide_eq_true (by omega)
   have wi : IntKind.wrap .i64 ((i : Int) + (e.length : Int)) = ((i + e.length : Nat) : Int) := by rw [wrap64 (by omega) (by omega)]; omega
   have hcut : cut x (i : Int) ((i + e.length : Nat) : Int) = cut s (i : Int) ((i + e.length : Nat) : Int) := ag_cut hs hx hcs hcx hag N hN (by omega) (by omega)
   have wj : IntKind.wrap .i64 ((j : Int) + 1) = ((j + 1 : Nat) : Int) := by rw [wrap64 (by omega) (by omega)]; omega
   have k2 : ∀ k b : Int, ms_OpAt_k2 N (ms_OpAt_l1 N n) (x, (i : Int), (j : Int), tab_signs, k, b) = ms_OpAt_k2 N (ms_OpAt_l1 N n) (s, (i : Int), (j : Int), tab_signs, k, b) := fun k b => by
    unfold ms_OpAt_k2
    simp only [wj]
    exact ih (j + 1) k b
   simp only [g0, gs, gx, ws, wx, ls, lx, wi, hcut, cond_true, k2]
  ·rw [lt_false hj, cond_false, cond_false]

theorem k1_out {l : List UInt8} {i : Nat} {r K : Int} {t : SToken} (h : ms_l5Next_k1 N (l, (i : Int), r, K) = some t) (hk : t.Kind ≠ 0) : ∃ e : Nat, r = (e : Int) ∧ i ≤ e ∧ e ≤ l.length ∧ cut l (i : Int) (e : Int) = some t.Text ∧ t = ⟨K, t.Text, (i : Int)⟩ ∧ e = i + t.Text.length := by
 unfold ms_l5Next_k1 at h
 rcases cond_some h with ⟨_, h⟩ | ⟨h0, h⟩
 ·cases h; exact absurd rfl hk
 ·obtain ⟨e, rfl⟩ := Int.eq_ofNat_of_zero_le (show 0 ≤ r by have := of_decide_eq_false h0; omega)
  obtain ⟨w, hw, h⟩ := bind_some h
  cases h
  obtain ⟨c1, c2, c3, c4⟩ := cut_out hw
  exact ⟨e, rfl, by omega, by omega, hw, rfl, by show e = i + w.length; omega⟩
theorem k1_in {i e : Nat} {K : Int} {w : List UInt8} (h1 : i ≤ e) (h2 : e ≤ c) (hw : cut s (i : Int) (e : Int) = some w) : ms_l5Next_k1 N (x, (i : Int), (e : Int), K) = some ⟨K, w, (i : Int)⟩ := by
 unfold ms_l5Next_k1
 have h0 : decide ((e : Int) < 0) = false := decide_eq_false (by omega)
 simp only [h0, cond_false]
 rw [ag_cut hs hx hcs hcx hag N hN h1 h2, hw, Option.bind_some]
theorem next_loc {i : Nat} (hi : i < s.length) (ere : Bool) {t : SToken} (h : ms_l5Next N s (i : Int) ere = some t) (hk : t.Kind ≠ 0) (hc : i + t.Text.length + 2 < c) : ms_l5Next N x (i : Int) ere = some t := by
 have hix : i < x.length := by omega
 have hb : x[i] = s[i] := by
  have := ag_get hs hx hcs hcx hag N hN (show i < c by omega)
  rw [List.getElem?_eq_getElem hi, List.getElem?_eq_getElem hix] at this
  exact (Option.some.inj this).symm
 unfold ms_l5Next at h ⊢
 rw [ix_nat hi, Option.bind_some] at h
 rw [ix_nat hix, Option.bind_some, hb]
 rcases cond_some h with ⟨h1, h⟩ | ⟨h1, h⟩
 ·rw [h1, cond_true]; exact h
 rw [h1, cond_false]
 rcases cond_some h with ⟨h2, h⟩ | ⟨h2, h⟩
 ·rw [h2, cond_true]
  rw [note_l N s (by omega) i N i (by omega) (by omega)] at h
  obtain ⟨e, e1, e2, e3, e4, e5, e6⟩ := k1_out hs hx hcs hcx hag N hN h hk
  have hfl : fl (x.drop i) = fl (s.drop i) := fl_loc hs hx hcs hcx hag N hN (c - i) i (Nat.le_refl _) (by omega)
  rw [note_l N x (by omega) i N i (by omega) (by omega), hfl, e1, k1_in hs hx hcs hcx hag N hN e2 (by omega) e4, ← e5]
 rw [h2, cond_false]
 obtain ⟨y, hy, h⟩ := bind_some h
 rw [hy, Option.bind_some]
 cases y with
 | true =>
  rw [cond_true] at h ⊢
  obtain ⟨r, hr, h⟩ := bind_some h
  obtain ⟨e, rfl, e2, e3, e4, e5, e6⟩ := k1_out hs hx hcs hcx hag N hN h hk
  rw [num_loc hs hx hcs hcx hag N hN (by omega) (by omega) hr, Option.bind_some, k1_in hs hx hcs hcx hag N hN e2 (by omega) e4, ← e5]
 | false =>
  rw [cond_false] at h ⊢
  rcases cond_some h with ⟨h3, h⟩ | ⟨h3, h⟩
  ·rw [h3, cond_true]
   obtain ⟨r, hr, h⟩ := bind_some h
   obtain ⟨e, rfl, e2, e3, e4, e5, e6⟩ := k1_out hs hx hcs hcx hag N hN h hk
   unfold ms_StrEnd at hr ⊢
   obtain ⟨r2, hr2, hr⟩ := bind_some hr
   have := Option.some.inj hr
   subst this
   rw [quoted_loc hs hx hcs hcx hag N hN 34 hi (by omega) hr2, Option.bind_some, Option.bind_some, k1_in hs hx hcs hcx hag N hN e2 (by omega) e4, ← e5]
  rw [h3, cond_false]
  obtain ⟨y, hy, h⟩ := bind_some h
  rw [hy, Option.bind_some]
  cases y with
  | true =>
   rw [cond_true] at h ⊢
   obtain ⟨r, hr, h⟩ := bind_some h
   obtain ⟨e, rfl, e2, e3, e4, e5, e6⟩ := k1_out hs hx hcs hcx hag N hN h hk
   unfold ms_EreEnd at hr ⊢
   obtain ⟨r2, hr2, hr⟩ := bind_some hr
   rcases cond_some hr with ⟨_, hr⟩ | ⟨g, hr⟩
   ·have := Option.some.inj hr; omega
   ·have := Option.some.inj hr
    subst this
    rw [quoted_loc hs hx hcs hcx hag N hN 47 hi (by omega) hr2, Option.bind_some, g, cond_false, Option.bind_some, k1_in hs hx hcs hcx hag N hN e2 (by omega) e4, ← e5]
  | false =>
   rw [cond_false] at h ⊢
   obtain ⟨y, hy, h⟩ := bind_some h
   rw [hy, Option.bind_some]
   cases y with
   | true =>
    rw [cond_true] at h ⊢
    obtain ⟨r, hr, h⟩ := bind_some h
    obtain ⟨w, hw, h⟩ := bind_some h
    obtain ⟨q, hq, h⟩ := bind_some h
    rcases cond_some h with ⟨_, h⟩ | ⟨hqf, h⟩
    ·cases h; exact absurd rfl hk
    ·have := Option.some.inj h
     subst this
     -- the word
     unfold ms_NameEnd at hr
     rw [l4Byte_is, Option.bind_some, let_spec, Option.bind_some] at hr
     rcases cond_some hr with ⟨hlet, hr⟩ | ⟨hlet, hr⟩
     ·have := Option.some.inj hr
      subst this
      unfold ms_l5Word at hw
      obtain ⟨z, hz, _⟩ := bind_some hw
      have := cut_out hz
      omega
     ·have hw0 := hw
      unfold ms_l5Word at hw
      obtain ⟨z, hz, hw⟩ := bind_some hw
      obtain ⟨c1, c2, c3, c4⟩ := cut_out hz
      obtain ⟨e, rfl⟩ := Int.eq_ofNat_of_zero_le (show 0 ≤ r by omega)
      have hzt : w.Text = z := by
       have k1 : ∀ K, ms_l5Word_k1 N (z, (i : Int), K) = some w → w.Text = z := fun K h => by
        unfold ms_l5Word_k1 at h
        rw [← Option.some.inj h]
       obtain ⟨k, _, hw⟩ := bind_some hw
       rcases cond_some hw with ⟨_, hw⟩ | ⟨_, hw⟩
       ·obtain ⟨_, _, hw⟩ := bind_some hw
        exact k1 _ hw
       ·obtain ⟨_, _, hw⟩ := bind_some hw
        rcases cond_some hw with ⟨_, hw⟩ | ⟨_, hw⟩
        ·exact k1 _ hw
        ·obtain ⟨_, _, hw⟩ := bind_some hw
         rcases cond_some hw with ⟨_, hw⟩ | ⟨_, hw⟩
         ·exact k1 _ hw
         ·exact k1 _ hw
      have hlen : e = i + w.Text.length := by rw [hzt]; omega
      have hnl := (name_loc hs hx hcs hcx hag N hN N i e (by omega) (by omega) hr).1
      have hne : ms_NameEnd N x (i : Int) = some (e : Int) := by
       unfold ms_NameEnd
       rw [l4Byte_is, Option.bind_some, let_spec, Option.bind_some, ag_at hs hx hcs hcx hag N hN (show i < c by omega), hlet, cond_false]
       exact hnl
      have hwx : ms_l5Word N x (i : Int) (e : Int) = some w := by
       rw [← hw0]
       unfold ms_l5Word
       rw [ag_cut hs hx hcs hcx hag N hN (by omega) (by omega), l4Byte_is, l4Byte_is, ag_at hs hx hcs hcx hag N hN (show e < c by omega)]
      rw [hne, Option.bind_some, hwx, Option.bind_some, hq, Option.bind_some, hqf, cond_false]
   | false =>
    rw [cond_false] at h ⊢
    obtain ⟨r, hr, h⟩ := bind_some h
    have hox : ms_OpAt N x (i : Int) = ms_OpAt N s (i : Int) := by
     unfold ms_OpAt
     rw [signs_is, Option.bind_some, Option.bind_some]
     exact op_loc hs hx hcs hcx hag N hN (by omega) N 0 0 0
    rw [hox, hr, Option.bind_some]
    rcases cond_some h with ⟨_, h⟩ | ⟨h0, h⟩
    ·cases h; exact absurd rfl hk
    ·rw [h0, cond_false]
     obtain ⟨e, e1, e2, e3, e4, e5, e6⟩ := k1_out hs hx hcs hcx hag N hN h hk
     rw [e1, k1_in hs hx hcs hcx hag N hN e2 (by omega) e4, ← e5]
end

end Go.Proofs.Tryz
