/-
  DERIVED. GIVEN WITH THE SEED: THE CARDS: each row of YtlglnimglieinaaGreatDoorRows.lean that lists a variable, with what it lists TIED to the program's text (the seventh form; the later family's looks); each row that meets fmt, with fmt's text TOLD by the authors' own Lean function (tested against real Go, not proved from fmt's source: count such statements apart). THE CARD IS WHAT COUNTS. Prove the row's statement (the work); the ties are given (YtlglnimglieinaaGreatDoorTie.lean); close each card by the builder's one call (the guide's Derived/Test/ToyasCard.lean, 'card_holds'). Laid BY PROGRAM, IN A SANDBOX (cutbox-door.mjs). By AI agents, Wed Nov 11 2026. No macro, syntax, notation, axiom, sorry.
-/
import Derived.Test.YtlglnimglieinaaGreatDoorRows
import GoSem.ClaimSeven
namespace Go.Proofs.YtlglnimglieinaaGreatDoor
namespace Rows

/-- THE TIED CARD OF 'laws.FnExactDerives'. -/
def fnExactDerivesCard : Claim7 := { stood := { row := fnExactDerivesRow, standIns := [], harness := (true, "c54f63d08f98fe52607ee7b514798a80528263e81be44e084c8fdf9af708ede0"), looks := false }, kinds := [], alts := [], laidByText := true, laidKinds := [.widerDeep, .data, .widerDeep], laidTests := true, laidLooks := .later }
def FnExactDerivesCardSaid : Prop := Claim7.holds Tryz.pinned (.plain (OpenSpec.ofChange fnExactDerivesSpec)) fnExactDerivesCard

/-- THE SECOND FORM's CARD OF 'laws.FnExactDerives'. -/
def fnExactDerivesUptoCard : Claim7 := { stood := { row := fnExactDerivesUptoRow, standIns := [], harness := (true, "c54f63d08f98fe52607ee7b514798a80528263e81be44e084c8fdf9af708ede0"), looks := false }, kinds := [], alts := [], laidByText := true, laidKinds := [.widerDeep, .data, .widerDeep], laidTests := true, laidLooks := .later }
def FnExactDerivesUptoCardSaid : Prop := Claim7.holds Tryz.pinned (.plain (OpenSpec.upto fnExactDerivesSpec)) fnExactDerivesUptoCard
end Rows
end Go.Proofs.YtlglnimglieinaaGreatDoor
