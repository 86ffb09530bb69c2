/-
 Plain lemmas on the models, part 11.
-/
import Derived.Test.YtkfcajnnbhahoaaGreatDoorLgFP10
namespace Go.Proofs.Tryz
open Go.Av
set_option maxRecDepth 100000
set_option linter.unusedSimpArgs false
set_option linter.unusedVariables false

theorem smS_sm {L : List SNode} (h : SmS L) : ∀ x, x ∈ L → smNode x := fun x hx => by
 obtain ⟨h1, h2, h3⟩ := h x hx
 exact ⟨by omega, by omega, by omega⟩
theorem same_self (N : Nat) (a : List SNode) (hN : 1048577 < N) (ha : a.length ≤ 1048576) (hs : ∀ x, x ∈ a → smNode x) : ms_SameTree N a a = some true := by
 have ints : ∀ (k : List Int), k.length ≤ 1048576 → ms_l6Ints N k k = some true := fun k hk => by
  have l : ∀ (n i : Nat), k.length - i < n → i ≤ k.length → ms_l6Ints_l1 N n (k, k, (i : Int)) = some true := by
   intro n
   induction n with
   | zero => intro i h; omega
   | succ n ih =>
    intro i hn hi
    rw [ms_l6Ints_l1]
    by_cases h : i < k.length
    ·have ne : (k[i] != k[i]) = false := by simp
     simp only [lt_true h, cond_true, ix_nat h, oBs, ne, cond_false]
     rw [wrap64 (by omega) (by omega), show (i : Int) + 1 = ((i + 1 : Nat) : Int) by omega]
     exact ih (i + 1) (by omega) (by omega)
    ·simp only [lt_false h, cond_false]
  unfold ms_l6Ints
  have ne : ((k.length : Int) != (k.length : Int)) = false := by simp
  rw [ne, cond_false]
  exact l N 0 (by omega) (by omega)
 have l : ∀ (n i : Nat), a.length - i < n → i ≤ a.length → ms_SameTree_l1 N n (a, a, (i : Int)) = some true := by
  intro n
  induction n with
  | zero => intro i h; omega
  | succ n ih =>
   intro i hn hi
   rw [ms_SameTree_l1]
   by_cases h : i < a.length
   ·have e1 : (a[i].Kind != a[i].Kind) = false := by simp
    have e2 : (a[i].Op != a[i].Op) = false := by simp
    have e3 : (!(a[i].Text == a[i].Text)) = false := by simp
    have e4 : (!(a[i].Other == a[i].Other)) = false := by simp
    have e5 := ints a[i].Kids (by have := hs _ (List.getElem_mem h); unfold smNode at this; omega)
    simp only [lt_true h, cond_true, ix_nat h, oBs, e1, e2, e3, e4, e5, cond_false, Bool.not_true]
    rw [wrap64 (by omega) (by omega), show (i : Int) + 1 = ((i + 1 : Nat) : Int) by omega]
    exact ih (i + 1) (by omega) (by omega)
   ·simp only [lt_false h, cond_false]
 unfold ms_SameTree
 have ne : ((a.length : Int) != (a.length : Int)) = false := by simp
 rw [ne, cond_false]
 exact l N 0 (by omega) (by omega)

theorem at_is (x : List UInt8) (i : Nat) (hi : i ≤ 1000) (hx : x.length ≤ 1048576) : ∃ v : Int, ml_at x (i : Int) = some v ∧ 0 ≤ v ∧ v < 256 := by
 unfold ml_at
 by_cases h : i < x.length
 ·have hb := UInt8.toNat_lt x[i]
  rw [lt_true h, cond_true, ix_nat h, oBs, wrap64 (by omega) (by omega)]
  exact ⟨_, rfl, by omega, by omega⟩
 ·rw [lt_false h, cond_false, wrap64 (n := (i : Int) * 37) (by omega) (by omega), wrap64 (n := (x.length : Int) * 11) (by omega) (by omega), wrap64 (by omega) (by omega), Int.tmod_eq_emod_of_nonneg (by omega)]
  exact ⟨_, rfl, by omega, by omega⟩
end Go.Proofs.Tryz
