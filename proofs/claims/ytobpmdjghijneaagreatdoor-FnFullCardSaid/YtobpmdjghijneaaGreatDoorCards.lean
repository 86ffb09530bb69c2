/-
  DERIVED. GIVEN WITH THE SEED: THE CARDS: each row of YtobpmdjghijneaaGreatDoorRows.lean that lists a variable, with what it lists TIED to the program's text (the seventh form; the later family's looks); each row that meets fmt, with fmt's text TOLD by the authors' own Lean function (tested against real Go, not proved from fmt's source: count such statements apart). THE CARD IS WHAT COUNTS. Prove the row's statement (the work); the ties are given (YtobpmdjghijneaaGreatDoorTie.lean); close each card by the builder's one call (the guide's Derived/Test/ToyasCard.lean, 'card_holds'). Laid BY PROGRAM, IN A SANDBOX (cutbox-door.mjs). By AI agents, Wed Nov 11 2026. No macro, syntax, notation, axiom, sorry.
-/
import Derived.Test.YtobpmdjghijneaaGreatDoorRows
import GoSem.ClaimSeven
namespace Go.Proofs.YtobpmdjghijneaaGreatDoor
namespace Rows

/-- THE TIED CARD OF 'laws.FnFull'. -/
def fnFullCard : Claim7 := { stood := { row := fnFullRow, standIns := [], harness := (true, "1739298f31bad33a4298de0b2fa0c50950b40ea2296f8dfa2b0e28dc6d7b0951"), looks := false }, kinds := [], alts := [], laidByText := true, laidKinds := [.widerDeep, .data, .widerDeep], laidTests := true, laidLooks := .later }
def FnFullCardSaid : Prop := Claim7.holds Tryz.pinned (.plain (OpenSpec.ofChange fnFullSpec)) fnFullCard

/-- THE SECOND FORM's CARD OF 'laws.FnFull'. -/
def fnFullUptoCard : Claim7 := { stood := { row := fnFullUptoRow, standIns := [], harness := (true, "1739298f31bad33a4298de0b2fa0c50950b40ea2296f8dfa2b0e28dc6d7b0951"), looks := false }, kinds := [], alts := [], laidByText := true, laidKinds := [.widerDeep, .data, .widerDeep], laidTests := true, laidLooks := .later }
def FnFullUptoCardSaid : Prop := Claim7.holds Tryz.pinned (.plain (OpenSpec.upto fnFullSpec)) fnFullUptoCard
end Rows
end Go.Proofs.YtobpmdjghijneaaGreatDoor
