/-
  DERIVED. GIVEN WITH THE SEED: THE CARDS: each row of YtgdlfplnfjnbdaaGreatDoorRows.lean that lists a variable, with what it lists TIED to the program's text (the seventh form; the later family's looks); each row that meets fmt, with fmt's text TOLD by the authors' own Lean function (tested against real Go, not proved from fmt's source: count such statements apart). THE CARD IS WHAT COUNTS. Prove the row's statement (the work); the ties are given (YtgdlfplnfjnbdaaGreatDoorTie.lean); close each card by the builder's one call (the guide's Derived/Test/ToyasCard.lean, 'card_holds'). Laid BY PROGRAM, IN A SANDBOX (cutbox-door.mjs). By AI agents, Wed Nov 11 2026. No macro, syntax, notation, axiom, sorry.
-/
import Derived.Test.YtgdlfplnfjnbdaaGreatDoorRows
import GoSem.ClaimSeven
namespace Go.Proofs.YtgdlfplnfjnbdaaGreatDoor
namespace Rows

/-- THE TIED CARD OF 'laws.FnFlips'. -/
def fnFlipsCard : Claim7 := { stood := { row := fnFlipsRow, standIns := [], harness := (true, "6887a44f772b5ed503b048fb3a0fab79fc357dac9e5fbf95c73ad260edd9753b"), looks := true }, kinds := [], alts := [], laidByText := true, laidKinds := [.data, .data, .data, .sentinel, .sentinel, .widerDeep, .data, .widerDeep], laidTests := true, laidLooks := .later }
def FnFlipsCardSaid : Prop := Claim7.holds Tryz.pinned (.plain (OpenSpec.ofChange fnFlipsSpec)) fnFlipsCard

/-- THE SECOND FORM's CARD OF 'laws.FnFlips'. -/
def fnFlipsUptoCard : Claim7 := { stood := { row := fnFlipsUptoRow, standIns := [], harness := (true, "6887a44f772b5ed503b048fb3a0fab79fc357dac9e5fbf95c73ad260edd9753b"), looks := true }, kinds := [], alts := [], laidByText := true, laidKinds := [.data, .data, .data, .sentinel, .sentinel, .widerDeep, .data, .widerDeep], laidTests := true, laidLooks := .later }
def FnFlipsUptoCardSaid : Prop := Claim7.holds Tryz.pinned (.plain (OpenSpec.upto fnFlipsSpec)) fnFlipsUptoCard
end Rows
end Go.Proofs.YtgdlfplnfjnbdaaGreatDoor
