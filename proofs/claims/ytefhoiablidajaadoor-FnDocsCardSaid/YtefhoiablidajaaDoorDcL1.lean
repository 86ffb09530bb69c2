/-
  The laws own helpers: copying, comparing, measuring, marking.
-/
import Derived.Test.YtefhoiablidajaaDoorDcM1
namespace Go.Proofs.Tryd
open Go.Av
set_option maxRecDepth 100000
set_option linter.unusedVariables false
set_option linter.unusedSimpArgs false

/-! ### the laws' helpers over []int -/

/-! ### the laws' helpers over []DNode -/
def szDNode (x : SDNode) : Nat := x.Text.length + x.Kids.length

/-- no part of it is longer than memory -/
def okDNode (x : SDNode) : Prop := x.Text.length ≤ maxLen ∧ x.Kids.length ≤ maxLen

/-- small enough to be copied, compared, marked -/
def smDNode (x : SDNode) : Prop := x.Text.length ≤ 2000000 ∧ x.Kids.length ≤ 1048576

theorem smDNode_of (a : List SDNode) (h : a.length + sumN szDNode a ≤ 1048576) : ∀ x, x ∈ a → smDNode x := by
  intro x hx
  have := sumN_mem (sz := szDNode) hx
  have e : szDNode x = x.Text.length + x.Kids.length := rfl
  rw [e] at this
  unfold smDNode
  omega

end Go.Proofs.Tryd
