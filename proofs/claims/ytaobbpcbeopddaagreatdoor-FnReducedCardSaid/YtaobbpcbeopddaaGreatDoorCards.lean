/-
  DERIVED. GIVEN WITH THE SEED: THE CARDS: each row of YtaobbpcbeopddaaGreatDoorRows.lean that lists a variable, with what it lists TIED to the program's text (the seventh form; the later family's looks); each row that meets fmt, with fmt's text TOLD by the authors' own Lean function (tested against real Go, not proved from fmt's source: count such statements apart). THE CARD IS WHAT COUNTS. Prove the row's statement (the work); the ties are given (YtaobbpcbeopddaaGreatDoorTie.lean); close each card by the builder's one call (the guide's Derived/Test/ToyasCard.lean, 'card_holds'). Laid BY PROGRAM, IN A SANDBOX (cutbox-door.mjs). By AI agents, Wed Nov 11 2026. No macro, syntax, notation, axiom, sorry.
-/
import Derived.Test.YtaobbpcbeopddaaGreatDoorRows
import GoSem.ClaimSeven
namespace Go.Proofs.YtaobbpcbeopddaaGreatDoor
namespace Rows

/-- THE TIED CARD OF 'laws.FnReduced'. -/
def fnReducedCard : Claim7 := { stood := { row := fnReducedRow, standIns := [], harness := (true, "9608095943e5bc33917b1520f8c48e0d684d2d1d0a2d73f940515afbfa441d4f"), looks := false }, kinds := [], alts := [], laidByText := true, laidKinds := [.widerDeep, .data, .widerDeep], laidTests := true, laidLooks := .later }
def FnReducedCardSaid : Prop := Claim7.holds Tryz.pinned (.plain (OpenSpec.ofChange fnReducedSpec)) fnReducedCard

/-- THE SECOND FORM's CARD OF 'laws.FnReduced'. -/
def fnReducedUptoCard : Claim7 := { stood := { row := fnReducedUptoRow, standIns := [], harness := (true, "9608095943e5bc33917b1520f8c48e0d684d2d1d0a2d73f940515afbfa441d4f"), looks := false }, kinds := [], alts := [], laidByText := true, laidKinds := [.widerDeep, .data, .widerDeep], laidTests := true, laidLooks := .later }
def FnReducedUptoCardSaid : Prop := Claim7.holds Tryz.pinned (.plain (OpenSpec.upto fnReducedSpec)) fnReducedUptoCard
end Rows
end Go.Proofs.YtaobbpcbeopddaaGreatDoor
