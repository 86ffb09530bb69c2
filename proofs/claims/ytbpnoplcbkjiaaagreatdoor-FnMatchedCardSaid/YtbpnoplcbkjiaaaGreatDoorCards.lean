/-
  DERIVED. GIVEN WITH THE SEED: THE CARDS: each row of YtbpnoplcbkjiaaaGreatDoorRows.lean that lists a variable, with what it lists TIED to the program's text (the seventh form; the later family's looks); each row that meets fmt, with fmt's text TOLD by the authors' own Lean function (tested against real Go, not proved from fmt's source: count such statements apart). THE CARD IS WHAT COUNTS. Prove the row's statement (the work); the ties are given (YtbpnoplcbkjiaaaGreatDoorTie.lean); close each card by the builder's one call (the guide's Derived/Test/ToyasCard.lean, 'card_holds'). Laid BY PROGRAM, IN A SANDBOX (cutbox-door.mjs). By AI agents, Wed Nov 11 2026. No macro, syntax, notation, axiom, sorry.
-/
import Derived.Test.YtbpnoplcbkjiaaaGreatDoorRows
import GoSem.ClaimSeven
namespace Go.Proofs.YtbpnoplcbkjiaaaGreatDoor
namespace Rows

/-- THE TIED CARD OF 'laws.FnMatched'. -/
def fnMatchedCard : Claim7 := { stood := { row := fnMatchedRow, standIns := [], harness := (true, "e929b7437f4f93070cb3a6c2870911d6a3c8d90ae8771bb3f604fd8b3c59fb7c"), looks := false }, kinds := [], alts := [], laidByText := true, laidKinds := [.widerDeep, .data, .widerDeep], laidTests := true, laidLooks := .later }
def FnMatchedCardSaid : Prop := Claim7.holds Tryz.pinned (.plain (OpenSpec.ofChange fnMatchedSpec)) fnMatchedCard

/-- THE SECOND FORM's CARD OF 'laws.FnMatched'. -/
def fnMatchedUptoCard : Claim7 := { stood := { row := fnMatchedUptoRow, standIns := [], harness := (true, "e929b7437f4f93070cb3a6c2870911d6a3c8d90ae8771bb3f604fd8b3c59fb7c"), looks := false }, kinds := [], alts := [], laidByText := true, laidKinds := [.widerDeep, .data, .widerDeep], laidTests := true, laidLooks := .later }
def FnMatchedUptoCardSaid : Prop := Claim7.holds Tryz.pinned (.plain (OpenSpec.upto fnMatchedSpec)) fnMatchedUptoCard
end Rows
end Go.Proofs.YtbpnoplcbkjiaaaGreatDoor
