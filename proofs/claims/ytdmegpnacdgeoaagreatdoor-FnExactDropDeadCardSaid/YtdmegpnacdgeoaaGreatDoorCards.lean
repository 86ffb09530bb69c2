/-
  DERIVED. GIVEN WITH THE SEED: THE CARDS: each row of YtdmegpnacdgeoaaGreatDoorRows.lean that lists a variable, with what it lists TIED to the program's text (the seventh form; the later family's looks); each row that meets fmt, with fmt's text TOLD by the authors' own Lean function (tested against real Go, not proved from fmt's source: count such statements apart). THE CARD IS WHAT COUNTS. Prove the row's statement (the work); the ties are given (YtdmegpnacdgeoaaGreatDoorTie.lean); close each card by the builder's one call (the guide's Derived/Test/ToyasCard.lean, 'card_holds'). Laid BY PROGRAM, IN A SANDBOX (cutbox-door.mjs). By AI agents, Wed Nov 11 2026. No macro, syntax, notation, axiom, sorry.
-/
import Derived.Test.YtdmegpnacdgeoaaGreatDoorRows
import GoSem.ClaimSeven
namespace Go.Proofs.YtdmegpnacdgeoaaGreatDoor
namespace Rows

/-- THE TIED CARD OF 'laws.FnExactSpansOf'. -/
def fnExactSpansOfCard : Claim7 := { stood := { row := fnExactSpansOfRow, standIns := [], harness := (true, "8cc93df49f52da05b3c76b3fb18c88920d445556a6629bad09f7baddef9c2cc5"), looks := false }, kinds := [], alts := [], laidByText := true, laidKinds := [.widerDeep, .data, .widerDeep], laidTests := true, laidLooks := .later }
def FnExactSpansOfCardSaid : Prop := Claim7.holds Tryz.pinned (.plain (OpenSpec.ofChange fnExactSpansOfSpec)) fnExactSpansOfCard

/-- THE TIED CARD OF 'laws.FnExactDropDead'. -/
def fnExactDropDeadCard : Claim7 := { stood := { row := fnExactDropDeadRow, standIns := [], harness := (true, "8cc93df49f52da05b3c76b3fb18c88920d445556a6629bad09f7baddef9c2cc5"), looks := false }, kinds := [], alts := [], laidByText := true, laidKinds := [.widerDeep, .data, .widerDeep], laidTests := true, laidLooks := .later }
def FnExactDropDeadCardSaid : Prop := Claim7.holds Tryz.pinned (.plain (OpenSpec.ofChange fnExactDropDeadSpec)) fnExactDropDeadCard

/-- THE TIED CARD OF 'laws.FnExactDeadStmts'. -/
def fnExactDeadStmtsCard : Claim7 := { stood := { row := fnExactDeadStmtsRow, standIns := [], harness := (true, "8cc93df49f52da05b3c76b3fb18c88920d445556a6629bad09f7baddef9c2cc5"), looks := false }, kinds := [], alts := [], laidByText := true, laidKinds := [.widerDeep, .data, .widerDeep], laidTests := true, laidLooks := .later }
def FnExactDeadStmtsCardSaid : Prop := Claim7.holds Tryz.pinned (.plain (OpenSpec.ofChange fnExactDeadStmtsSpec)) fnExactDeadStmtsCard

/-- THE SECOND FORM's CARD OF 'laws.FnExactSpansOf'. -/
def fnExactSpansOfUptoCard : Claim7 := { stood := { row := fnExactSpansOfUptoRow, standIns := [], harness := (true, "8cc93df49f52da05b3c76b3fb18c88920d445556a6629bad09f7baddef9c2cc5"), looks := false }, kinds := [], alts := [], laidByText := true, laidKinds := [.widerDeep, .data, .widerDeep], laidTests := true, laidLooks := .later }
def FnExactSpansOfUptoCardSaid : Prop := Claim7.holds Tryz.pinned (.plain (OpenSpec.upto fnExactSpansOfSpec)) fnExactSpansOfUptoCard

/-- THE SECOND FORM's CARD OF 'laws.FnExactDropDead'. -/
def fnExactDropDeadUptoCard : Claim7 := { stood := { row := fnExactDropDeadUptoRow, standIns := [], harness := (true, "8cc93df49f52da05b3c76b3fb18c88920d445556a6629bad09f7baddef9c2cc5"), looks := false }, kinds := [], alts := [], laidByText := true, laidKinds := [.widerDeep, .data, .widerDeep], laidTests := true, laidLooks := .later }
def FnExactDropDeadUptoCardSaid : Prop := Claim7.holds Tryz.pinned (.plain (OpenSpec.upto fnExactDropDeadSpec)) fnExactDropDeadUptoCard

/-- THE SECOND FORM's CARD OF 'laws.FnExactDeadStmts'. -/
def fnExactDeadStmtsUptoCard : Claim7 := { stood := { row := fnExactDeadStmtsUptoRow, standIns := [], harness := (true, "8cc93df49f52da05b3c76b3fb18c88920d445556a6629bad09f7baddef9c2cc5"), looks := false }, kinds := [], alts := [], laidByText := true, laidKinds := [.widerDeep, .data, .widerDeep], laidTests := true, laidLooks := .later }
def FnExactDeadStmtsUptoCardSaid : Prop := Claim7.holds Tryz.pinned (.plain (OpenSpec.upto fnExactDeadStmtsSpec)) fnExactDeadStmtsUptoCard
end Rows
end Go.Proofs.YtdmegpnacdgeoaaGreatDoor
