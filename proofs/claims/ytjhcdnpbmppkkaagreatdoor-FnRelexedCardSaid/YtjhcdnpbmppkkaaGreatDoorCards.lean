/-
  DERIVED. GIVEN WITH THE SEED: THE CARDS: each row of YtjhcdnpbmppkkaaGreatDoorRows.lean that lists a variable, with what it lists TIED to the program's text (the seventh form; the later family's looks); each row that meets fmt, with fmt's text TOLD by the authors' own Lean function (tested against real Go, not proved from fmt's source: count such statements apart). THE CARD IS WHAT COUNTS. Prove the row's statement (the work); the ties are given (YtjhcdnpbmppkkaaGreatDoorTie.lean); close each card by the builder's one call (the guide's Derived/Test/ToyasCard.lean, 'card_holds'). Laid BY PROGRAM, IN A SANDBOX (cutbox-door.mjs). By AI agents, Wed Nov 11 2026. No macro, syntax, notation, axiom, sorry.
-/
import Derived.Test.YtjhcdnpbmppkkaaGreatDoorRows
import GoSem.ClaimSeven
namespace Go.Proofs.YtjhcdnpbmppkkaaGreatDoor
namespace Rows

/-- THE TIED CARD OF 'laws.FnRelexed'. -/
def fnRelexedCard : Claim7 := { stood := { row := fnRelexedRow, standIns := [], harness := (true, "f95b725d5af389ad7c9b43fe5bf631ba92eb2ea58c287a975654c722795a4a03"), looks := false }, kinds := [], alts := [], laidByText := true, laidKinds := [.widerDeep, .data, .widerDeep], laidTests := true, laidLooks := .later }
def FnRelexedCardSaid : Prop := Claim7.holds Tryz.pinned (.plain (OpenSpec.ofChange fnRelexedSpec)) fnRelexedCard

/-- THE TIED CARD OF 'laws.FnColors'. -/
def fnColorsCard : Claim7 := { stood := { row := fnColorsRow, standIns := [], harness := (true, "f95b725d5af389ad7c9b43fe5bf631ba92eb2ea58c287a975654c722795a4a03"), looks := false }, kinds := [], alts := [], laidByText := true, laidKinds := [.widerDeep, .data, .widerDeep], laidTests := true, laidLooks := .later }
def FnColorsCardSaid : Prop := Claim7.holds Tryz.pinned (.plain (OpenSpec.ofChange fnColorsSpec)) fnColorsCard

/-- THE TIED CARD OF 'laws.FnCursors'. -/
def fnCursorsCard : Claim7 := { stood := { row := fnCursorsRow, standIns := [], harness := (true, "f95b725d5af389ad7c9b43fe5bf631ba92eb2ea58c287a975654c722795a4a03"), looks := false }, kinds := [], alts := [], laidByText := true, laidKinds := [.data, .data, .data, .data, .pinned], laidTests := true, laidLooks := .later }
def FnCursorsCardSaid : Prop := Claim7.holds Tryz.pinned (.plain (OpenSpec.ofChange fnCursorsSpec)) fnCursorsCard

/-- THE SECOND FORM's CARD OF 'laws.FnRelexed'. -/
def fnRelexedUptoCard : Claim7 := { stood := { row := fnRelexedUptoRow, standIns := [], harness := (true, "f95b725d5af389ad7c9b43fe5bf631ba92eb2ea58c287a975654c722795a4a03"), looks := false }, kinds := [], alts := [], laidByText := true, laidKinds := [.widerDeep, .data, .widerDeep], laidTests := true, laidLooks := .later }
def FnRelexedUptoCardSaid : Prop := Claim7.holds Tryz.pinned (.plain (OpenSpec.upto fnRelexedSpec)) fnRelexedUptoCard

/-- THE SECOND FORM's CARD OF 'laws.FnColors'. -/
def fnColorsUptoCard : Claim7 := { stood := { row := fnColorsUptoRow, standIns := [], harness := (true, "f95b725d5af389ad7c9b43fe5bf631ba92eb2ea58c287a975654c722795a4a03"), looks := false }, kinds := [], alts := [], laidByText := true, laidKinds := [.widerDeep, .data, .widerDeep], laidTests := true, laidLooks := .later }
def FnColorsUptoCardSaid : Prop := Claim7.holds Tryz.pinned (.plain (OpenSpec.upto fnColorsSpec)) fnColorsUptoCard

/-- THE SECOND FORM's CARD OF 'laws.FnCursors'. -/
def fnCursorsUptoCard : Claim7 := { stood := { row := fnCursorsUptoRow, standIns := [], harness := (true, "f95b725d5af389ad7c9b43fe5bf631ba92eb2ea58c287a975654c722795a4a03"), looks := false }, kinds := [], alts := [], laidByText := true, laidKinds := [.data, .data, .data, .data, .pinned], laidTests := true, laidLooks := .later }
def FnCursorsUptoCardSaid : Prop := Claim7.holds Tryz.pinned (.plain (OpenSpec.upto fnCursorsSpec)) fnCursorsUptoCard
end Rows
end Go.Proofs.YtjhcdnpbmppkkaaGreatDoor
