import Derived.Test.YtghlaehjpbjonaaGreatDoorParseExprRo
import Derived.Test.YtghlaehjpbjonaaGreatDoorParseExprFact
import Derived.Test.YtghlaehjpbjonaaGreatDoorRows
import Derived.Test.YtghlaehjpbjonaaGreatDoorCards
import Derived.Test.YtghlaehjpbjonaaGreatDoorTie
import Derived.WalkKit
import Derived.ProofKit
import Derived.OpenShut
import Derived.Lay
import Derived.MakeChecks
import Derived.SevenTiedAt
import Derived.Test.YtghlaehjpbjonaaGreatDoorRCore5
namespace Go.Proofs.YtghlaehjpbjonaaGreatDoor.fnExactParseExpr
open Go Go.ChangeShapes Go.WideShapes Go.ChangeAt Go.RowKit Go.Av Go.Proofs.Tryz
set_option linter.unusedVariables false
set_option linter.unusedSimpArgs false
set_option maxRecDepth 100000
theorem over : Rows.fnExactParseExprRow.holds Tryz.pinned (OpenSpec.ofChange Rows.fnExactParseExprSpec) :=
  OpenClaim.holds_of_wide 3 Tryz.f3 rfl rfl rfl rfl rfl rfl rfl ⟨rfl, rfl, rfl, rfl, rfl⟩ rfl rfl rfl rfl rfl (by kernel_rfl) Tryz.func3 facts
    (of_decide_eq_true (by kernel_rfl)) (by unfold Func.isWrapper; first | (rw [if_pos (by decide +kernel)]; kernel_rfl) | (rw [if_neg (by decide +kernel)]; exact ⟨rfl, rfl⟩))
    (fun os started H enc _ => lifted os started H enc)

theorem w1 : Rows.fnExactParseExprRow.wfByText (OpenSpec.ofChange Rows.fnExactParseExprSpec) = true := by kernel_rfl
theorem w2 : Tryz.prog.mainIs = some (true, "da886e895d182d925afea6fce33144d692fc613ef9bce9d85114919e73457a49".toList) := by kernel_rfl
theorem w3 : false = Tryz.prog.looks [] := by kernel_rfl
theorem w4 : ([22, 24].all fun u => !Tryz.prog.wantsStandIn u) = true := by kernel_rfl
theorem w5 : false = Rows.fnExactParseExprRow.goesBy Tryz.prog := by kernel_rfl
theorem w6 : Tryz.prog.funcNamed "loop.example/g01543/laws.FnExactParseExpr" = some 3 := by kernel_rfl

/-- the statement -/
theorem proved : Rows.FnExactParseExprCardSaid :=
  Claim7.holds_tied_plain_at .later [] [.widerDeep, .data, .widerDeep] true (true, "da886e895d182d925afea6fce33144d692fc613ef9bce9d85114919e73457a49") false
    over (fun _ h => by cases h) w1 (fun _ h => by cases h) fnExactParseExpr_row_tie rfl ⟨rfl, rfl⟩ w2 rfl
    (fun f fn hf hfn => by
      obtain rfl : f = 3 := Option.some.inj (w6.symm.trans hf) |>.symm
      obtain rfl : fn = Tryz.f3 := (Option.some.inj (Tryz.func3.symm.trans hfn)).symm
      exact ⟨w3, fun j t ht => by
        rw [Tryz.params3] at ht
        have hm : t ∈ [22, 24] := by simpa using Array.mem_of_getElem? ht
        have hall : ([22, 24].all fun u => !Tryz.prog.wantsStandIn u) = true := w4
        exact (show Tryz.prog.wantsStandIn t = false by simpa using List.all_eq_true.1 hall t hm)⟩)
    w5
#print axioms proved
end Go.Proofs.YtghlaehjpbjonaaGreatDoor.fnExactParseExpr
