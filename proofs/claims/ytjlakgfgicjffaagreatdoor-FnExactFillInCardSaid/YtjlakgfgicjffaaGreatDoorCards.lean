/-
  DERIVED. GIVEN WITH THE SEED: THE CARDS: each row of YtjlakgfgicjffaaGreatDoorRows.lean that lists a variable, with what it lists TIED to the program's text (the seventh form; the later family's looks); each row that meets fmt, with fmt's text TOLD by the authors' own Lean function (tested against real Go, not proved from fmt's source: count such statements apart). THE CARD IS WHAT COUNTS. Prove the row's statement (the work); the ties are given (YtjlakgfgicjffaaGreatDoorTie.lean); close each card by the builder's one call (the guide's Derived/Test/ToyasCard.lean, 'card_holds'). Laid BY PROGRAM, IN A SANDBOX (cutbox-door.mjs). By AI agents, Wed Nov 11 2026. No macro, syntax, notation, axiom, sorry.
-/
import Derived.Test.YtjlakgfgicjffaaGreatDoorRows
import GoSem.ClaimSeven
namespace Go.Proofs.YtjlakgfgicjffaaGreatDoor
namespace Rows

/-- THE TIED CARD OF 'laws.FnExactFillIn'. -/
def fnExactFillInCard : Claim7 := { stood := { row := fnExactFillInRow, standIns := [], harness := (true, "d26f96a3c5ab5cf1d0b7f5a04a26409c34f9356c43521b4dc819f89c119a095a"), looks := false }, kinds := [], alts := [], laidByText := true, laidKinds := [.widerDeep, .data, .widerDeep], laidTests := true, laidLooks := .later }
def FnExactFillInCardSaid : Prop := Claim7.holds Tryz.pinned (.plain (OpenSpec.ofChange fnExactFillInSpec)) fnExactFillInCard

/-- THE SECOND FORM's CARD OF 'laws.FnExactFillIn'. -/
def fnExactFillInUptoCard : Claim7 := { stood := { row := fnExactFillInUptoRow, standIns := [], harness := (true, "d26f96a3c5ab5cf1d0b7f5a04a26409c34f9356c43521b4dc819f89c119a095a"), looks := false }, kinds := [], alts := [], laidByText := true, laidKinds := [.widerDeep, .data, .widerDeep], laidTests := true, laidLooks := .later }
def FnExactFillInUptoCardSaid : Prop := Claim7.holds Tryz.pinned (.plain (OpenSpec.upto fnExactFillInSpec)) fnExactFillInUptoCard
end Rows
end Go.Proofs.YtjlakgfgicjffaaGreatDoor
