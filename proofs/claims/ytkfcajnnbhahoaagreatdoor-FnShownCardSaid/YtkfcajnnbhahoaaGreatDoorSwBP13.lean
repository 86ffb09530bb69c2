/-
 Plain lemmas on the models, part 13.
-/
import Derived.Test.YtkfcajnnbhahoaaGreatDoorSwBP12
namespace Go.Proofs.Tryz
open Go.Av
set_option maxRecDepth 100000
set_option linter.unusedSimpArgs false
set_option linter.unusedVariables false

theorem smS_sm {L : List SNode} (h : SmS L) : ∀ x, x ∈ L → smNode x := fun x hx => by
 obtain ⟨h1, h2, h3⟩ := h x hx
 exact ⟨by omega, by omega, by omega⟩
theorem same_self (N : Nat) (a : List SNode) (hN : 1048577 < N) (ha : a.length ≤ 1048576) (hs : ∀ x, x ∈ a → smNode x) : ms_SameTree N a a = some true := by
 have ints : ∀ (k : List Int), k.length ≤ 1048576 → ms_l6Ints N k k = some true := fun k hk => by
  have l : ∀ (n i : Nat), k.length - i < n → i ≤ k.length → ms_l6Ints_l1 N n (k, k, (i : Int)) = some true := by
   intro n
   induction n with
   | zero => intro i h; omega
   | succ n ih =>
    intro i hn hi
    rw [ms_l6Ints_l1]
    by_cases h : i < k.length
    ·have ne : (k[i] != k[i]) = false := by simp
     simp only [lt_true h, cond_true, ix_nat h, Option.bind_some, ne, cond_false]
     rw [wrap64 (by omega) (by omega), show (i : Int) + 1 = ((i + 1 : Nat) : Int) by omega]
     exact ih (i + 1) (by omega) (by omega)
    ·simp only [lt_false h, cond_false]
  unfold ms_l6Ints
  have ne : ((k.length : Int) != (k.length : Int)) = false := by simp
  rw [ne, cond_false]
  exact l N 0 (by omega) (by omega)
 have l : ∀ (n i : Nat), a.length - i < n → i ≤ a.length → ms_SameTree_l1 N n (a, a, (i : Int)) = some true := by
  intro n
  induction n with
  | zero => intro i h; omega
  | succ n ih =>
   intro i hn hi
   rw [ms_SameTree_l1]
   by_cases h : i < a.length
   ·have e1 : (a[i].Kind != a[i].Kind) = false := by simp
    have e2 : (a[i].Op != a[i].Op) = false := by simp
    have e3 : (!(a[i].Text == a[i].Text)) = false := by simp
    have e4 : (!(a[i].Other == a[i].Other)) = false := by simp
    have e5 := ints a[i].Kids (by have := hs _ (List.getElem_mem h); unfold smNode at this; omega)
    simp only [lt_true h, cond_true, ix_nat h, Option.bind_some, e1, e2, e3, e4, e5, cond_false, Bool.not_true]
    rw [wrap64 (by omega) (by omega), show (i : Int) + 1 = ((i + 1 : Nat) : Int) by omega]
    exact ih (i + 1) (by omega) (by omega)
   ·simp only [lt_false h, cond_false]
 unfold ms_SameTree
 have ne : ((a.length : Int) != (a.length : Int)) = false := by simp
 rw [ne, cond_false]
 exact l N 0 (by omega) (by omega)
theorem show_any (N : Nat) (L : List SNode) (hN : 1048577 + 800 < N) (hL : SpoP L) : ∃ (c : Bool) (s : List UInt8), ms_TreeOk N L = some c ∧ ms_ShowTree N L = some s ∧ mi_ShowTree N L = some s ∧ s.length ≤ 1000000 ∧ ms_ReadTree N s = some (bif c then L else [], c) ∧ (!(s == [])) = c := by
 have hs := smS_sm hL.1
 have hl := hL.2
 obtain ⟨c, c1, _, _⟩ := treeOk_ex N L (by omega) hs
 obtain ⟨s, s1, s2⟩ := show_is N L (by omega) (by omega) hs
 cases c with
 | true =>
  obtain ⟨s', g1, g2, g3, g4⟩ := shown_back N L (by omega) hs (fun x hx => by have := hL.1 x hx; omega) c1
  rw [g1] at s1
  cases s1
  refine ⟨true, s, c1, g1, s2, g2, g4, ?_⟩
  have : (s == []) = false := by
   cases hs : (s == []) with
   | false => rfl
   | true => exact absurd (eq_of_beq hs) g3
  rw [this]; rfl
 | false =>
  have e : ms_ShowTree N L = some [] := by
   unfold ms_ShowTree
   rw [c1]
   rfl
  rw [e] at s1
  cases s1
  exact ⟨false, [], c1, e, s2, by simp, readTree_none N (by omega), rfl⟩
theorem plain (b : List UInt8) (kb : (∀ z, z ∈ b → True) ∧ b.length ≤ maxLen) : ∃ N, ml_FnShown N b = some true := by
 refine ⟨18446744073709551657 + 2097152, ?_⟩
 obtain ⟨N, hN⟩ : ∃ N, N = 18446744073709551657 + 2097152 := ⟨_, rfl⟩
 rw [← hN]
 unfold ml_FnShown ml_big
 rw [Option.bind_some]
 by_cases hb : b.length ≤ 1048576
 ·have hd : decide ((b.length : Int) > 1048576) = false := by simp; omega
  rw [hd, cond_false]
  obtain ⟨h, e1⟩ := new_dr b hb N (by omega)
  unfold ms_DrawShowTree ms_DrawReadTree
  rw [e1]
  simp only [Option.bind_some]
  obtain ⟨L, i1, h1, e2, hL, _, _⟩ := spoilt_dr b hb N (by omega) 0 h (by omega) (by omega)
  rw [e2]
  simp only [Option.bind_some]
  obtain ⟨c, s, c1, c2, c3, c4, c5, c6⟩ := show_any N L (by omega) hL
  obtain ⟨r, r1, r2, _, _⟩ := readTree_ex N s (by omega) (by omega)
  rw [c5] at r1
  cases r1
  have first : ∀ k : Option Bool, Option.bind ((ms_TreeOk N L).bind fun r19 => bif (!(c == r19)) then some true else (bif c then (ms_SameTree N (bif c then L else []) L).bind fun r20 => bif (!r20) then some true else (some (!((!(s == [])) == c))) else (some (!((!(s == [])) == c))))) (fun y18 => bif y18 then some false else k) = k := fun k => by
   rw [c1, Option.bind_some, c6]
   cases c with
   | false => rfl
   | true =>
    have := same_self N L (by omega) (by have := hL.2; omega) (smS_sm hL.1)
    simp only [cond_true, this, Option.bind_some]
    rfl
  rw [c3, Option.bind_some, r2, Option.bind_some]
  refine Eq.trans (first _) ?_
  -- the second text
  obtain ⟨A, i2, h2, e3, hA, g0, g1⟩ := any_dr b hb N (by omega) 0 h (by omega) (by omega)
  obtain ⟨hAS, _, _⟩ := hA.spo
  obtain ⟨_, s', _, d2, _, d4, _, _⟩ := show_any N A (by omega) hAS
  have hdraw : ∃ t : List UInt8, t.length ≤ 1048576 ∧ ((ms_l7Any N b 0 h).bind fun r5 => (ms_ShowTree N r5.1).bind fun r6 => (ms_l1Below 5 b r5.2.1 r5.2.2).bind fun r18 => bif (r18.1 == 0) then (ms_l1Spoil N r6 b r18.2.1 r18.2.2).bind fun r20 => some r20.1 else (bif (r18.1 == 1) then (cat r6 ([0] : List UInt8)).bind fun s22 => some s22 else (bif (r18.1 == 2) then (ms_l1Below (IntKind.wrap .i64 ((r6.length : Int) + 1)) b r18.2.1 r18.2.2).bind fun r25 => (cut r6 0 r25.1).bind fun s26 => some s26 else (some r6)))) = some t := by
   rw [e3, Option.bind_some, d2, Option.bind_some]
   obtain ⟨q, i3, h3, e4, _, q0, q1⟩ := below_dr b hb 5 i2 h2 g0 g1
   rw [e4]
   simp only [Option.bind_some]
   cases (q == 0) with
   | true =>
    obtain ⟨x, i4, h4, e5, hx, _, _⟩ := spoil_dr b hb N (by omega) s' 1000000 d4 (by omega) i3 h3 q0 q1
    rw [cond_true, e5, Option.bind_some]
    have hx : x.length ≤ 1000000 + 10 := hx
    exact ⟨x, by omega, rfl⟩
   | false =>
    rw [cond_false]
    cases (q == 1) with
    | true =>
     rw [cond_true, cat_some (by simp only [maxLen, List.length_cons, List.length_nil]; omega), Option.bind_some]
     exact ⟨_, by simp; omega, rfl⟩
    | false =>
     rw [cond_false]
     cases (q == 2) with
     | true =>
      rw [cond_true, wrap64 (by omega) (by omega)]
      obtain ⟨x, i4, h4, e5, hx, _, _⟩ := below_dr b hb ((s'.length : Int) + 1) i3 h3 q0 q1
      rw [e5]
      simp only [Option.bind_some]
      obtain ⟨u, u1, u2⟩ := cut_ex (l := s') (x := 0) (y := x) (by omega) (by omega) (by omega)
      rw [u1, Option.bind_some]
      exact ⟨u, by omega, rfl⟩
     | false => rw [cond_false]; exact ⟨s', by omega, rfl⟩
  obtain ⟨t, t1, t2⟩ := hdraw
  rw [t2, Option.bind_some]
  obtain ⟨r, r1, r2', r3, r4⟩ := readTree_ex N t (by omega) t1
  rw [r1, r2']
  simp only [Option.bind_some]
  obtain ⟨y, k⟩ := r
  have ek : (k == k) = true := by simp
  dsimp only
  rw [ek, cond_true]
  cases k with
  | false => rfl
  | true =>
   obtain ⟨y1, y2⟩ := readTree_right N t y r1
   have r3 : y.length ≤ 400 := r3
   obtain ⟨z, z1, z2⟩ := show_is N y (by omega) (by omega) r4
   rw [y2] at z1
   cases z1
   have et : (t == t) = true := by simp
   simp only [Bool.not_true, cond_false, z2, Option.bind_some, et, cond_true, y1]
 ·have hd : decide ((b.length : Int) > 1048576) = true := by simp; omega
  rw [hd]
  rfl

end Go.Proofs.Tryz
