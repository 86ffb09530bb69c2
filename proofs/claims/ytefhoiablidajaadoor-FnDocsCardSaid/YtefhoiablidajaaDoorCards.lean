/-
  DERIVED. GIVEN WITH THE SEED: THE CARDS: each row of YtefhoiablidajaaDoorRows.lean that lists a variable, with what it lists TIED to the program's text (the seventh form; the later family's looks); each row that meets fmt, with fmt's text TOLD by the authors' own Lean function (tested against real Go, not proved from fmt's source: count such statements apart). THE CARD IS WHAT COUNTS. Prove the row's statement (the work); the ties are given (YtefhoiablidajaaDoorTie.lean); close each card by the builder's one call (the guide's Derived/Test/ToyasCard.lean, 'card_holds'). Laid BY PROGRAM, IN A SANDBOX (cutbox-door.mjs). By AI agents, Wed Nov 11 2026. No macro, syntax, notation, axiom, sorry.
-/
import Derived.Test.YtefhoiablidajaaDoorRows
import GoSem.ClaimSeven
namespace Go.Proofs.YtefhoiablidajaaDoor
namespace Rows

/-- THE TIED CARD OF 'laws.FnDocs'. -/
def fnDocsCard : Claim7 := { stood := { row := fnDocsRow, standIns := [], harness := (true, "758210c91c8274165fdc9bfcfaa40830a37d04cd59d13f0516088e5649606f65"), looks := false }, kinds := [], alts := [], laidByText := true, laidKinds := [.data, .pinned], laidTests := true, laidLooks := .later }
def FnDocsCardSaid : Prop := Claim7.holds Tryd.pinned (.plain (OpenSpec.ofChange fnDocsSpec)) fnDocsCard

/-- THE SECOND FORM's CARD OF 'laws.FnDocs'. -/
def fnDocsUptoCard : Claim7 := { stood := { row := fnDocsUptoRow, standIns := [], harness := (true, "758210c91c8274165fdc9bfcfaa40830a37d04cd59d13f0516088e5649606f65"), looks := false }, kinds := [], alts := [], laidByText := true, laidKinds := [.data, .pinned], laidTests := true, laidLooks := .later }
def FnDocsUptoCardSaid : Prop := Claim7.holds Tryd.pinned (.plain (OpenSpec.upto fnDocsSpec)) fnDocsUptoCard
end Rows
end Go.Proofs.YtefhoiablidajaaDoor
