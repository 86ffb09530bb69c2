/-
 Plain lemmas on the models, part 2.
-/
import Derived.Test.YthgednmgmjmmpaaGreatDoorRcSP1
namespace Go.Proofs.Tryz
open Go.Av
set_option maxRecDepth 100000
set_option linter.unusedSimpArgs false
set_option linter.unusedVariables false

def FK (n : SNode) : Prop :=
 (n.Kind = 28 → 2 ≤ n.Kids.length ∧ n.Kids.length ≤ 3) ∧ (n.Kind = 29 → n.Kids.length = 2) ∧ (n.Kind = 30 → n.Kids.length = 2) ∧ (n.Kind = 31 → n.Kids.length = 4) ∧
 (n.Kind = 42 → n.Op = 1 ∧ n.Kids.length = 1 ∨ n.Op = 2 ∧ n.Kids.length = 1 ∨ n.Op = 3 ∧ n.Kids.length = 2) ∧ (n.Kind = 43 → n.Op = 1 ∧ n.Kids.length = 2 ∨ n.Op = 3 ∧ n.Kids.length = 3) ∧
 (n.Kind = 12 → n.Kids.length = 2 ∧ n.Text = [] ∧ n.Other = []) ∧ (n.Kind = 11 → n.Kids.length = 1 ∧ n.Text = [] ∧ n.Other = [])

theorem FK.other {n : SNode} (h : n.Kind ≠ 28 ∧ n.Kind ≠ 29 ∧ n.Kind ≠ 30 ∧ n.Kind ≠ 31 ∧ n.Kind ≠ 42 ∧ n.Kind ≠ 43 ∧ n.Kind ≠ 12 ∧ n.Kind ≠ 11) : FK n :=
 ⟨fun e => absurd e h.1, fun e => absurd e h.2.1, fun e => absurd e h.2.2.1, fun e => absurd e h.2.2.2.1, fun e => absurd e h.2.2.2.2.1, fun e => absurd e h.2.2.2.2.2.1, fun e => absurd e h.2.2.2.2.2.2.1, fun e => absurd e h.2.2.2.2.2.2.2⟩

end Go.Proofs.Tryz
