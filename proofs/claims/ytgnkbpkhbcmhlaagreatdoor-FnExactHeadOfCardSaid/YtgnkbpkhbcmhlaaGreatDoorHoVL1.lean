/-
 The laws own helpers: copying, comparing, measuring, marking.
-/
import Derived.Test.YtgnkbpkhbcmhlaaGreatDoorHoVM1
namespace Go.Proofs.Tryz
open Go.Av
set_option maxRecDepth 100000
set_option linter.unusedVariables false
set_option linter.unusedSimpArgs false

theorem toIntS_is (N : Nat) (a : List Int) (hN : a.length < N) (hl : a.length ≤ 1048576) : ml_toIntS N a = some a := by
 have hloop : ∀ n s, ml_toIntS_l1 N n s = toL some n s := by
  intro n
  induction n with
  | zero => intro s; rfl
  | succ n ih => intro ⟨a, i, y⟩; rw [ml_toIntS_l1, toL]; simp only [ih, Option.bind_some]
 unfold ml_toIntS
 rw [mk_some (by omega) (by simp only [maxLen]; omega), Option.bind_some, hloop]
 exact toL_is some a (fun _ _ => rfl) (by simp only [maxLen]; omega) N 0 _ (by omega) (by omega) (by simp) (by simp)

theorem eqIntS_self (N : Nat) (a : List Int) (hN : a.length < N) (hl : a.length ≤ maxLen) : ml_eqIntS N a a = some true := by
 have hloop : ∀ n s, ml_eqIntS_l1 N n s = eqL (fun x y => some (x == y)) n s := by
  intro n
  induction n with
  | zero => intro s; rfl
  | succ n ih => intro ⟨a, b, i⟩; rw [ml_eqIntS_l1, eqL]; simp only [ih, Option.bind_some, bne]
 unfold ml_eqIntS
 simp only [bne_self_eq_false, cond_false, hloop]
 exact eqL_self _ a (fun x _ => by simp) hl N 0 (by omega) (by omega)

def szNode (x : SNode) : Nat := x.Text.length + x.Other.length + x.Kids.length

def okNode (x : SNode) : Prop := x.Text.length ≤ maxLen ∧ x.Other.length ≤ maxLen ∧ x.Kids.length ≤ maxLen

theorem szNode_is (x : SNode) (hx : okNode x) : Sz (ml_szNode x) (szNode x) := by
 intro b h0 h1
 obtain ⟨hText, hOther, hKids⟩ := hx
 simp only [maxLen] at hText hOther hKids
 unfold ml_szNode szNode
 unfold ml_szIntS
 rw [wrap64 (n := b - (x.Text.length : Int)) (by omega) (by omega)]
 by_cases g0 : b - (x.Text.length : Int) < 0
 ·exact ⟨-1, by simp [g0], .inl ⟨by omega, by omega⟩⟩
 rw [wrap64 (n := b - (x.Text.length : Int) - (x.Other.length : Int)) (by omega) (by omega)]
 by_cases g1 : b - (x.Text.length : Int) - (x.Other.length : Int) < 0
 ·exact ⟨-1, by simp [g0, g1], .inl ⟨by omega, by omega⟩⟩
 rw [wrap64 (n := b - (x.Text.length : Int) - (x.Other.length : Int) - (x.Kids.length : Int)) (by omega) (by omega)]
 by_cases g2 : b - (x.Text.length : Int) - (x.Other.length : Int) - (x.Kids.length : Int) < 0
 ·exact ⟨-1, by simp [g0, g1, g2], .inl ⟨by omega, by omega⟩⟩
 exact ⟨b - (x.Text.length : Int) - (x.Other.length : Int) - (x.Kids.length : Int), by simp [g0, g1, g2], .inr ⟨by omega, by omega⟩⟩

theorem szNodeS_is (N : Nat) (a : List SNode) (hN : a.length < N) (hl : a.length ≤ maxLen) (ha : ∀ x, x ∈ a → okNode x) : Sz (ml_szNodeS N a) (a.length + sumN szNode a) := by
 have hloop : ∀ n s, ml_szNodeS_l1 N n s = szL ml_szNode n s := by
  intro n
  induction n with
  | zero => intro s; rfl
  | succ n ih => intro ⟨a, b, i⟩; rw [ml_szNodeS_l1, szL]; simp only [ih]
 intro b h0 h1
 have := Sz.list (f := ml_szNode) (sz := szNode) (fun x hx => szNode_is x (ha x hx)) hl (g := fun n b => bif decide (IntKind.wrap .i64 (b - (a.length : Int)) < 0) then some (-1) else szL ml_szNode n (a, IntKind.wrap .i64 (b - (a.length : Int)), 0)) hN (fun b => rfl) b h0 h1
 unfold ml_szNodeS
 simpa only [hloop] using this

def smNode (x : SNode) : Prop := x.Text.length ≤ 1048576 ∧ x.Other.length ≤ 1048576 ∧ x.Kids.length ≤ 1048576

theorem smNode_of (a : List SNode) (h : a.length + sumN szNode a ≤ 1048576) : ∀ x, x ∈ a → smNode x := by
 intro x hx
 have := sumN_mem (sz := szNode) hx
 have e : szNode x = x.Text.length + x.Other.length + x.Kids.length := rfl
 rw [e] at this
 unfold smNode
 omega

theorem toNode_is (N : Nat) (x : SNode) (hN : 1048576 < N) (hx : smNode x) : ml_toNode N x = some x := by
 unfold ml_toNode
 unfold smNode at hx
 rw [toIntS_is N _ (by omega) (by omega)]
 rfl

theorem toNodeS_is (N : Nat) (a : List SNode) (hN : 1048576 < N) (hl : a.length ≤ 1048576) (ha : ∀ x, x ∈ a → smNode x) : ml_toNodeS N a = some a := by
 have hloop : ∀ n s, ml_toNodeS_l1 N n s = toL (ml_toNode N) n s := by
  intro n
  induction n with
  | zero => intro s; rfl
  | succ n ih => intro ⟨a, i, y⟩; rw [ml_toNodeS_l1, toL]; simp only [ih]
 unfold ml_toNodeS
 rw [mk_some (by omega) (by simp only [maxLen]; omega), Option.bind_some, hloop]
 exact toL_is _ a (fun x hx => toNode_is N x hN (ha x hx)) (by simp only [maxLen]; omega) N 0 _ (by omega) (by omega) (by simp) (by simp)

theorem eqNode_self (N : Nat) (x : SNode) (hN : 1048576 < N) (hx : smNode x) : ml_eqNode N x x = some true := by
 unfold ml_eqNode
 unfold smNode at hx
 rw [eqIntS_self N _ (by omega) (by simp only [maxLen]; omega)]
 simp

theorem eqNodeS_self (N : Nat) (a : List SNode) (hN : 1048576 < N) (hl : a.length ≤ 1048576) (ha : ∀ x, x ∈ a → smNode x) : ml_eqNodeS N a a = some true := by
 have hloop : ∀ n s, ml_eqNodeS_l1 N n s = eqL (ml_eqNode N) n s := by
  intro n
  induction n with
  | zero => intro s; rfl
  | succ n ih => intro ⟨a, b, i⟩; rw [ml_eqNodeS_l1, eqL]; simp only [ih]
 unfold ml_eqNodeS
 simp only [bne_self_eq_false, cond_false, hloop]
 exact eqL_self _ a (fun x hx => eqNode_self N x hN (ha x hx)) (by simp only [maxLen]; omega) N 0 (by omega) (by omega)

def smDNode (x : SDNode) : Prop := x.Text.length ≤ 2000000 ∧ x.Kids.length ≤ 1048576

end Go.Proofs.Tryz
