/-
  DERIVED. GIVEN WITH THE SEED: THE CARDS: each row of YtdmegpnacdgeoaaDoorRows.lean that lists a variable, with what it lists TIED to the program's text (the seventh form; the later family's looks); each row that meets fmt, with fmt's text TOLD by the authors' own Lean function (tested against real Go, not proved from fmt's source: count such statements apart). THE CARD IS WHAT COUNTS. Prove the row's statement (the work); the ties are given (YtdmegpnacdgeoaaDoorTie.lean); close each card by the builder's one call (the guide's Derived/Test/ToyasCard.lean, 'card_holds'). Laid BY PROGRAM, IN A SANDBOX (cutbox-door.mjs). By AI agents, Wed Nov 11 2026. No macro, syntax, notation, axiom, sorry.
-/
import Derived.Test.YtdmegpnacdgeoaaDoorRows
import GoSem.ClaimSeven
namespace Go.Proofs.YtdmegpnacdgeoaaDoor
namespace Rows

/-- THE TIED CARD OF 'laws.FnDocs'. -/
def fnDocsCard : Claim7 := { stood := { row := fnDocsRow, standIns := [], harness := (true, "e6da80ebe643ef01f83ae00eba10d494152888c5d42c3afff91228c7aaeb0714"), looks := false }, kinds := [], alts := [], laidByText := true, laidKinds := [.data, .pinned], laidTests := true, laidLooks := .later }
def FnDocsCardSaid : Prop := Claim7.holds Tryd.pinned (.plain (OpenSpec.ofChange fnDocsSpec)) fnDocsCard

/-- THE TIED CARD OF 'laws.FnExactFaultText'. -/
def fnExactFaultTextCard : Claim7 := { stood := { row := fnExactFaultTextRow, standIns := [], harness := (true, "e6da80ebe643ef01f83ae00eba10d494152888c5d42c3afff91228c7aaeb0714"), looks := false }, kinds := [], alts := [], laidByText := true, laidKinds := [.data, .data, .data], laidTests := true, laidLooks := .later }
def FnExactFaultTextCardSaid : Prop := Claim7.holds Tryd.pinned (.plain (OpenSpec.ofChange fnExactFaultTextSpec)) fnExactFaultTextCard

/-- THE SECOND FORM's CARD OF 'laws.FnDocs'. -/
def fnDocsUptoCard : Claim7 := { stood := { row := fnDocsUptoRow, standIns := [], harness := (true, "e6da80ebe643ef01f83ae00eba10d494152888c5d42c3afff91228c7aaeb0714"), looks := false }, kinds := [], alts := [], laidByText := true, laidKinds := [.data, .pinned], laidTests := true, laidLooks := .later }
def FnDocsUptoCardSaid : Prop := Claim7.holds Tryd.pinned (.plain (OpenSpec.upto fnDocsSpec)) fnDocsUptoCard

/-- THE SECOND FORM's CARD OF 'laws.FnExactFaultText'. -/
def fnExactFaultTextUptoCard : Claim7 := { stood := { row := fnExactFaultTextUptoRow, standIns := [], harness := (true, "e6da80ebe643ef01f83ae00eba10d494152888c5d42c3afff91228c7aaeb0714"), looks := false }, kinds := [], alts := [], laidByText := true, laidKinds := [.data, .data, .data], laidTests := true, laidLooks := .later }
def FnExactFaultTextUptoCardSaid : Prop := Claim7.holds Tryd.pinned (.plain (OpenSpec.upto fnExactFaultTextSpec)) fnExactFaultTextUptoCard
end Rows
end Go.Proofs.YtdmegpnacdgeoaaDoor
