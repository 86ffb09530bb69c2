/-
  DERIVED. GIVEN WITH THE SEED: THE CARDS: each row of YtkfcajnnbhahoaaGreatDoorRows.lean that lists a variable, with what it lists TIED to the program's text (the seventh form; the later family's looks); each row that meets fmt, with fmt's text TOLD by the authors' own Lean function (tested against real Go, not proved from fmt's source: count such statements apart). THE CARD IS WHAT COUNTS. Prove the row's statement (the work); the ties are given (YtkfcajnnbhahoaaGreatDoorTie.lean); close each card by the builder's one call (the guide's Derived/Test/ToyasCard.lean, 'card_holds'). Laid BY PROGRAM, IN A SANDBOX (cutbox-door.mjs). By AI agents, Wed Nov 11 2026. No macro, syntax, notation, axiom, sorry.
-/
import Derived.Test.YtkfcajnnbhahoaaGreatDoorRows
import GoSem.ClaimSeven
namespace Go.Proofs.YtkfcajnnbhahoaaGreatDoor
namespace Rows

/-- THE TIED CARD OF 'laws.FnShown'. -/
def fnShownCard : Claim7 := { stood := { row := fnShownRow, standIns := [], harness := (true, "cdaebf4274e095591c84b06983aeafee5c7bc2ccbd4e8a7f7861ba714bf390d4"), looks := true }, kinds := [], alts := [], laidByText := true, laidKinds := [.widerDeep, .data, .widerDeep], laidTests := true, laidLooks := .later }
def FnShownCardSaid : Prop := Claim7.holds Tryz.pinned (.plain (OpenSpec.ofChange fnShownSpec)) fnShownCard

/-- THE TIED CARD OF 'laws.FnEdits'. -/
def fnEditsCard : Claim7 := { stood := { row := fnEditsRow, standIns := [], harness := (true, "cdaebf4274e095591c84b06983aeafee5c7bc2ccbd4e8a7f7861ba714bf390d4"), looks := true }, kinds := [], alts := [], laidByText := true, laidKinds := [.widerDeep, .data, .widerDeep], laidTests := true, laidLooks := .later }
def FnEditsCardSaid : Prop := Claim7.holds Tryz.pinned (.plain (OpenSpec.ofChange fnEditsSpec)) fnEditsCard

/-- THE TIED CARD OF 'laws.FnFlips'. -/
def fnFlipsCard : Claim7 := { stood := { row := fnFlipsRow, standIns := [], harness := (true, "cdaebf4274e095591c84b06983aeafee5c7bc2ccbd4e8a7f7861ba714bf390d4"), looks := true }, kinds := [], alts := [], laidByText := true, laidKinds := [.data, .data, .data, .sentinel, .sentinel, .widerDeep, .data, .widerDeep], laidTests := true, laidLooks := .later }
def FnFlipsCardSaid : Prop := Claim7.holds Tryz.pinned (.plain (OpenSpec.ofChange fnFlipsSpec)) fnFlipsCard

/-- THE TIED CARD OF 'laws.FnLogic'. -/
def fnLogicCard : Claim7 := { stood := { row := fnLogicRow, standIns := [], harness := (true, "cdaebf4274e095591c84b06983aeafee5c7bc2ccbd4e8a7f7861ba714bf390d4"), looks := true }, kinds := [], alts := [], laidByText := true, laidKinds := [.widerDeep, .data, .widerDeep], laidTests := true, laidLooks := .later }
def FnLogicCardSaid : Prop := Claim7.holds Tryz.pinned (.plain (OpenSpec.ofChange fnLogicSpec)) fnLogicCard

/-- THE TIED CARD OF 'laws.FnDead'. -/
def fnDeadCard : Claim7 := { stood := { row := fnDeadRow, standIns := [], harness := (true, "cdaebf4274e095591c84b06983aeafee5c7bc2ccbd4e8a7f7861ba714bf390d4"), looks := true }, kinds := [], alts := [], laidByText := true, laidKinds := [.widerDeep, .data, .widerDeep], laidTests := true, laidLooks := .later }
def FnDeadCardSaid : Prop := Claim7.holds Tryz.pinned (.plain (OpenSpec.ofChange fnDeadSpec)) fnDeadCard

/-- THE TIED CARD OF 'laws.FnMatched'. -/
def fnMatchedCard : Claim7 := { stood := { row := fnMatchedRow, standIns := [], harness := (true, "cdaebf4274e095591c84b06983aeafee5c7bc2ccbd4e8a7f7861ba714bf390d4"), looks := true }, kinds := [], alts := [], laidByText := true, laidKinds := [.widerDeep, .data, .widerDeep], laidTests := true, laidLooks := .later }
def FnMatchedCardSaid : Prop := Claim7.holds Tryz.pinned (.plain (OpenSpec.ofChange fnMatchedSpec)) fnMatchedCard

/-- THE SECOND FORM's CARD OF 'laws.FnShown'. -/
def fnShownUptoCard : Claim7 := { stood := { row := fnShownUptoRow, standIns := [], harness := (true, "cdaebf4274e095591c84b06983aeafee5c7bc2ccbd4e8a7f7861ba714bf390d4"), looks := true }, kinds := [], alts := [], laidByText := true, laidKinds := [.widerDeep, .data, .widerDeep], laidTests := true, laidLooks := .later }
def FnShownUptoCardSaid : Prop := Claim7.holds Tryz.pinned (.plain (OpenSpec.upto fnShownSpec)) fnShownUptoCard

/-- THE SECOND FORM's CARD OF 'laws.FnEdits'. -/
def fnEditsUptoCard : Claim7 := { stood := { row := fnEditsUptoRow, standIns := [], harness := (true, "cdaebf4274e095591c84b06983aeafee5c7bc2ccbd4e8a7f7861ba714bf390d4"), looks := true }, kinds := [], alts := [], laidByText := true, laidKinds := [.widerDeep, .data, .widerDeep], laidTests := true, laidLooks := .later }
def FnEditsUptoCardSaid : Prop := Claim7.holds Tryz.pinned (.plain (OpenSpec.upto fnEditsSpec)) fnEditsUptoCard

/-- THE SECOND FORM's CARD OF 'laws.FnFlips'. -/
def fnFlipsUptoCard : Claim7 := { stood := { row := fnFlipsUptoRow, standIns := [], harness := (true, "cdaebf4274e095591c84b06983aeafee5c7bc2ccbd4e8a7f7861ba714bf390d4"), looks := true }, kinds := [], alts := [], laidByText := true, laidKinds := [.data, .data, .data, .sentinel, .sentinel, .widerDeep, .data, .widerDeep], laidTests := true, laidLooks := .later }
def FnFlipsUptoCardSaid : Prop := Claim7.holds Tryz.pinned (.plain (OpenSpec.upto fnFlipsSpec)) fnFlipsUptoCard

/-- THE SECOND FORM's CARD OF 'laws.FnLogic'. -/
def fnLogicUptoCard : Claim7 := { stood := { row := fnLogicUptoRow, standIns := [], harness := (true, "cdaebf4274e095591c84b06983aeafee5c7bc2ccbd4e8a7f7861ba714bf390d4"), looks := true }, kinds := [], alts := [], laidByText := true, laidKinds := [.widerDeep, .data, .widerDeep], laidTests := true, laidLooks := .later }
def FnLogicUptoCardSaid : Prop := Claim7.holds Tryz.pinned (.plain (OpenSpec.upto fnLogicSpec)) fnLogicUptoCard

/-- THE SECOND FORM's CARD OF 'laws.FnDead'. -/
def fnDeadUptoCard : Claim7 := { stood := { row := fnDeadUptoRow, standIns := [], harness := (true, "cdaebf4274e095591c84b06983aeafee5c7bc2ccbd4e8a7f7861ba714bf390d4"), looks := true }, kinds := [], alts := [], laidByText := true, laidKinds := [.widerDeep, .data, .widerDeep], laidTests := true, laidLooks := .later }
def FnDeadUptoCardSaid : Prop := Claim7.holds Tryz.pinned (.plain (OpenSpec.upto fnDeadSpec)) fnDeadUptoCard

/-- THE SECOND FORM's CARD OF 'laws.FnMatched'. -/
def fnMatchedUptoCard : Claim7 := { stood := { row := fnMatchedUptoRow, standIns := [], harness := (true, "cdaebf4274e095591c84b06983aeafee5c7bc2ccbd4e8a7f7861ba714bf390d4"), looks := true }, kinds := [], alts := [], laidByText := true, laidKinds := [.widerDeep, .data, .widerDeep], laidTests := true, laidLooks := .later }
def FnMatchedUptoCardSaid : Prop := Claim7.holds Tryz.pinned (.plain (OpenSpec.upto fnMatchedSpec)) fnMatchedUptoCard
end Rows
end Go.Proofs.YtkfcajnnbhahoaaGreatDoor
