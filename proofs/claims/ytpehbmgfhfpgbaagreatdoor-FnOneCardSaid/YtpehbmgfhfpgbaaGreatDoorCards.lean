/-
  DERIVED. GIVEN WITH THE SEED: THE CARDS: each row of YtpehbmgfhfpgbaaGreatDoorRows.lean that lists a variable, with what it lists TIED to the program's text (the seventh form; the later family's looks); each row that meets fmt, with fmt's text TOLD by the authors' own Lean function (tested against real Go, not proved from fmt's source: count such statements apart). THE CARD IS WHAT COUNTS. Prove the row's statement (the work); the ties are given (YtpehbmgfhfpgbaaGreatDoorTie.lean); close each card by the builder's one call (the guide's Derived/Test/ToyasCard.lean, 'card_holds'). Laid BY PROGRAM, IN A SANDBOX (cutbox-door.mjs). By AI agents, Wed Nov 11 2026. No macro, syntax, notation, axiom, sorry.
-/
import Derived.Test.YtpehbmgfhfpgbaaGreatDoorRows
import GoSem.ClaimSeven
namespace Go.Proofs.YtpehbmgfhfpgbaaGreatDoor
namespace Rows

/-- THE TIED CARD OF 'laws.FnOne'. -/
def fnOneCard : Claim7 := { stood := { row := fnOneRow, standIns := [], harness := (true, "5de6902b3775b42ca6a8a22b42399f9685dfbeb3a5343f5813d2eb519ad96c4c"), looks := false }, kinds := [], alts := [], laidByText := true, laidKinds := [.widerDeep, .data, .widerDeep], laidTests := true, laidLooks := .later }
def FnOneCardSaid : Prop := Claim7.holds Tryz.pinned (.plain (OpenSpec.ofChange fnOneSpec)) fnOneCard

/-- THE SECOND FORM's CARD OF 'laws.FnOne'. -/
def fnOneUptoCard : Claim7 := { stood := { row := fnOneUptoRow, standIns := [], harness := (true, "5de6902b3775b42ca6a8a22b42399f9685dfbeb3a5343f5813d2eb519ad96c4c"), looks := false }, kinds := [], alts := [], laidByText := true, laidKinds := [.widerDeep, .data, .widerDeep], laidTests := true, laidLooks := .later }
def FnOneUptoCardSaid : Prop := Claim7.holds Tryz.pinned (.plain (OpenSpec.upto fnOneSpec)) fnOneUptoCard
end Rows
end Go.Proofs.YtpehbmgfhfpgbaaGreatDoor
