/-
  DERIVED. GIVEN WITH THE SEED: THE CARDS: each row of YtghlaehjpbjonaaGreatDoorRows.lean that lists a variable, with what it lists TIED to the program's text (the seventh form; the later family's looks); each row that meets fmt, with fmt's text TOLD by the authors' own Lean function (tested against real Go, not proved from fmt's source: count such statements apart). THE CARD IS WHAT COUNTS. Prove the row's statement (the work); the ties are given (YtghlaehjpbjonaaGreatDoorTie.lean); close each card by the builder's one call (the guide's Derived/Test/ToyasCard.lean, 'card_holds'). Laid BY PROGRAM, IN A SANDBOX (cutbox-door.mjs). By AI agents, Wed Nov 11 2026. No macro, syntax, notation, axiom, sorry.
-/
import Derived.Test.YtghlaehjpbjonaaGreatDoorRows
import GoSem.ClaimSeven
namespace Go.Proofs.YtghlaehjpbjonaaGreatDoor
namespace Rows

/-- THE TIED CARD OF 'laws.FnExactParseExpr'. -/
def fnExactParseExprCard : Claim7 := { stood := { row := fnExactParseExprRow, standIns := [], harness := (true, "da886e895d182d925afea6fce33144d692fc613ef9bce9d85114919e73457a49"), looks := false }, kinds := [], alts := [], laidByText := true, laidKinds := [.widerDeep, .data, .widerDeep], laidTests := true, laidLooks := .later }
def FnExactParseExprCardSaid : Prop := Claim7.holds Tryz.pinned (.plain (OpenSpec.ofChange fnExactParseExprSpec)) fnExactParseExprCard

/-- THE TIED CARD OF 'laws.FnExactReadExpr'. -/
def fnExactReadExprCard : Claim7 := { stood := { row := fnExactReadExprRow, standIns := [], harness := (true, "da886e895d182d925afea6fce33144d692fc613ef9bce9d85114919e73457a49"), looks := false }, kinds := [], alts := [], laidByText := true, laidKinds := [.widerDeep, .data, .widerDeep], laidTests := true, laidLooks := .later }
def FnExactReadExprCardSaid : Prop := Claim7.holds Tryz.pinned (.plain (OpenSpec.ofChange fnExactReadExprSpec)) fnExactReadExprCard

/-- THE TIED CARD OF 'laws.FnExactNeedless'. -/
def fnExactNeedlessCard : Claim7 := { stood := { row := fnExactNeedlessRow, standIns := [], harness := (true, "da886e895d182d925afea6fce33144d692fc613ef9bce9d85114919e73457a49"), looks := false }, kinds := [], alts := [], laidByText := true, laidKinds := [.widerDeep, .data, .widerDeep], laidTests := true, laidLooks := .later }
def FnExactNeedlessCardSaid : Prop := Claim7.holds Tryz.pinned (.plain (OpenSpec.ofChange fnExactNeedlessSpec)) fnExactNeedlessCard

/-- THE TIED CARD OF 'laws.FnExactReduce'. -/
def fnExactReduceCard : Claim7 := { stood := { row := fnExactReduceRow, standIns := [], harness := (true, "da886e895d182d925afea6fce33144d692fc613ef9bce9d85114919e73457a49"), looks := false }, kinds := [], alts := [], laidByText := true, laidKinds := [.widerDeep, .data, .widerDeep], laidTests := true, laidLooks := .later }
def FnExactReduceCardSaid : Prop := Claim7.holds Tryz.pinned (.plain (OpenSpec.ofChange fnExactReduceSpec)) fnExactReduceCard

/-- THE TIED CARD OF 'laws.FnExactDerives'. -/
def fnExactDerivesCard : Claim7 := { stood := { row := fnExactDerivesRow, standIns := [], harness := (true, "da886e895d182d925afea6fce33144d692fc613ef9bce9d85114919e73457a49"), looks := false }, kinds := [], alts := [], laidByText := true, laidKinds := [.widerDeep, .data, .widerDeep], laidTests := true, laidLooks := .later }
def FnExactDerivesCardSaid : Prop := Claim7.holds Tryz.pinned (.plain (OpenSpec.ofChange fnExactDerivesSpec)) fnExactDerivesCard

/-- THE TIED CARD OF 'laws.FnExactHeadOf'. -/
def fnExactHeadOfCard : Claim7 := { stood := { row := fnExactHeadOfRow, standIns := [], harness := (true, "da886e895d182d925afea6fce33144d692fc613ef9bce9d85114919e73457a49"), looks := false }, kinds := [], alts := [], laidByText := true, laidKinds := [.widerDeep, .data, .widerDeep], laidTests := true, laidLooks := .later }
def FnExactHeadOfCardSaid : Prop := Claim7.holds Tryz.pinned (.plain (OpenSpec.ofChange fnExactHeadOfSpec)) fnExactHeadOfCard

/-- THE TIED CARD OF 'laws.FnExactShunt'. -/
def fnExactShuntCard : Claim7 := { stood := { row := fnExactShuntRow, standIns := [], harness := (true, "da886e895d182d925afea6fce33144d692fc613ef9bce9d85114919e73457a49"), looks := false }, kinds := [], alts := [], laidByText := true, laidKinds := [.widerDeep, .data, .widerDeep], laidTests := true, laidLooks := .later }
def FnExactShuntCardSaid : Prop := Claim7.holds Tryz.pinned (.plain (OpenSpec.ofChange fnExactShuntSpec)) fnExactShuntCard

/-- THE TIED CARD OF 'laws.FnExactExprDoc'. -/
def fnExactExprDocCard : Claim7 := { stood := { row := fnExactExprDocRow, standIns := [], harness := (true, "da886e895d182d925afea6fce33144d692fc613ef9bce9d85114919e73457a49"), looks := false }, kinds := [], alts := [], laidByText := true, laidKinds := [.widerDeep, .data, .widerDeep], laidTests := true, laidLooks := .later }
def FnExactExprDocCardSaid : Prop := Claim7.holds Tryz.pinned (.plain (OpenSpec.ofChange fnExactExprDocSpec)) fnExactExprDocCard

/-- THE TIED CARD OF 'laws.FnExactExprText'. -/
def fnExactExprTextCard : Claim7 := { stood := { row := fnExactExprTextRow, standIns := [], harness := (true, "da886e895d182d925afea6fce33144d692fc613ef9bce9d85114919e73457a49"), looks := false }, kinds := [], alts := [], laidByText := true, laidKinds := [.widerDeep, .data, .widerDeep], laidTests := true, laidLooks := .later }
def FnExactExprTextCardSaid : Prop := Claim7.holds Tryz.pinned (.plain (OpenSpec.ofChange fnExactExprTextSpec)) fnExactExprTextCard

/-- THE TIED CARD OF 'laws.FnColors'. -/
def fnColorsCard : Claim7 := { stood := { row := fnColorsRow, standIns := [], harness := (true, "da886e895d182d925afea6fce33144d692fc613ef9bce9d85114919e73457a49"), looks := false }, kinds := [], alts := [], laidByText := true, laidKinds := [.widerDeep, .data, .widerDeep], laidTests := true, laidLooks := .later }
def FnColorsCardSaid : Prop := Claim7.holds Tryz.pinned (.plain (OpenSpec.ofChange fnColorsSpec)) fnColorsCard

/-- THE TIED CARD OF 'laws.FnCursors'. -/
def fnCursorsCard : Claim7 := { stood := { row := fnCursorsRow, standIns := [], harness := (true, "da886e895d182d925afea6fce33144d692fc613ef9bce9d85114919e73457a49"), looks := false }, kinds := [], alts := [], laidByText := true, laidKinds := [.data, .data, .data, .data, .pinned], laidTests := true, laidLooks := .later }
def FnCursorsCardSaid : Prop := Claim7.holds Tryz.pinned (.plain (OpenSpec.ofChange fnCursorsSpec)) fnCursorsCard

/-- THE TIED CARD OF 'laws.FnRelexed'. -/
def fnRelexedCard : Claim7 := { stood := { row := fnRelexedRow, standIns := [], harness := (true, "da886e895d182d925afea6fce33144d692fc613ef9bce9d85114919e73457a49"), looks := false }, kinds := [], alts := [], laidByText := true, laidKinds := [.widerDeep, .data, .widerDeep], laidTests := true, laidLooks := .later }
def FnRelexedCardSaid : Prop := Claim7.holds Tryz.pinned (.plain (OpenSpec.ofChange fnRelexedSpec)) fnRelexedCard

/-- THE SECOND FORM's CARD OF 'laws.FnExactParseExpr'. -/
def fnExactParseExprUptoCard : Claim7 := { stood := { row := fnExactParseExprUptoRow, standIns := [], harness := (true, "da886e895d182d925afea6fce33144d692fc613ef9bce9d85114919e73457a49"), looks := false }, kinds := [], alts := [], laidByText := true, laidKinds := [.widerDeep, .data, .widerDeep], laidTests := true, laidLooks := .later }
def FnExactParseExprUptoCardSaid : Prop := Claim7.holds Tryz.pinned (.plain (OpenSpec.upto fnExactParseExprSpec)) fnExactParseExprUptoCard

/-- THE SECOND FORM's CARD OF 'laws.FnExactReadExpr'. -/
def fnExactReadExprUptoCard : Claim7 := { stood := { row := fnExactReadExprUptoRow, standIns := [], harness := (true, "da886e895d182d925afea6fce33144d692fc613ef9bce9d85114919e73457a49"), looks := false }, kinds := [], alts := [], laidByText := true, laidKinds := [.widerDeep, .data, .widerDeep], laidTests := true, laidLooks := .later }
def FnExactReadExprUptoCardSaid : Prop := Claim7.holds Tryz.pinned (.plain (OpenSpec.upto fnExactReadExprSpec)) fnExactReadExprUptoCard

/-- THE SECOND FORM's CARD OF 'laws.FnExactNeedless'. -/
def fnExactNeedlessUptoCard : Claim7 := { stood := { row := fnExactNeedlessUptoRow, standIns := [], harness := (true, "da886e895d182d925afea6fce33144d692fc613ef9bce9d85114919e73457a49"), looks := false }, kinds := [], alts := [], laidByText := true, laidKinds := [.widerDeep, .data, .widerDeep], laidTests := true, laidLooks := .later }
def FnExactNeedlessUptoCardSaid : Prop := Claim7.holds Tryz.pinned (.plain (OpenSpec.upto fnExactNeedlessSpec)) fnExactNeedlessUptoCard

/-- THE SECOND FORM's CARD OF 'laws.FnExactReduce'. -/
def fnExactReduceUptoCard : Claim7 := { stood := { row := fnExactReduceUptoRow, standIns := [], harness := (true, "da886e895d182d925afea6fce33144d692fc613ef9bce9d85114919e73457a49"), looks := false }, kinds := [], alts := [], laidByText := true, laidKinds := [.widerDeep, .data, .widerDeep], laidTests := true, laidLooks := .later }
def FnExactReduceUptoCardSaid : Prop := Claim7.holds Tryz.pinned (.plain (OpenSpec.upto fnExactReduceSpec)) fnExactReduceUptoCard

/-- THE SECOND FORM's CARD OF 'laws.FnExactDerives'. -/
def fnExactDerivesUptoCard : Claim7 := { stood := { row := fnExactDerivesUptoRow, standIns := [], harness := (true, "da886e895d182d925afea6fce33144d692fc613ef9bce9d85114919e73457a49"), looks := false }, kinds := [], alts := [], laidByText := true, laidKinds := [.widerDeep, .data, .widerDeep], laidTests := true, laidLooks := .later }
def FnExactDerivesUptoCardSaid : Prop := Claim7.holds Tryz.pinned (.plain (OpenSpec.upto fnExactDerivesSpec)) fnExactDerivesUptoCard

/-- THE SECOND FORM's CARD OF 'laws.FnExactHeadOf'. -/
def fnExactHeadOfUptoCard : Claim7 := { stood := { row := fnExactHeadOfUptoRow, standIns := [], harness := (true, "da886e895d182d925afea6fce33144d692fc613ef9bce9d85114919e73457a49"), looks := false }, kinds := [], alts := [], laidByText := true, laidKinds := [.widerDeep, .data, .widerDeep], laidTests := true, laidLooks := .later }
def FnExactHeadOfUptoCardSaid : Prop := Claim7.holds Tryz.pinned (.plain (OpenSpec.upto fnExactHeadOfSpec)) fnExactHeadOfUptoCard

/-- THE SECOND FORM's CARD OF 'laws.FnExactShunt'. -/
def fnExactShuntUptoCard : Claim7 := { stood := { row := fnExactShuntUptoRow, standIns := [], harness := (true, "da886e895d182d925afea6fce33144d692fc613ef9bce9d85114919e73457a49"), looks := false }, kinds := [], alts := [], laidByText := true, laidKinds := [.widerDeep, .data, .widerDeep], laidTests := true, laidLooks := .later }
def FnExactShuntUptoCardSaid : Prop := Claim7.holds Tryz.pinned (.plain (OpenSpec.upto fnExactShuntSpec)) fnExactShuntUptoCard

/-- THE SECOND FORM's CARD OF 'laws.FnExactExprDoc'. -/
def fnExactExprDocUptoCard : Claim7 := { stood := { row := fnExactExprDocUptoRow, standIns := [], harness := (true, "da886e895d182d925afea6fce33144d692fc613ef9bce9d85114919e73457a49"), looks := false }, kinds := [], alts := [], laidByText := true, laidKinds := [.widerDeep, .data, .widerDeep], laidTests := true, laidLooks := .later }
def FnExactExprDocUptoCardSaid : Prop := Claim7.holds Tryz.pinned (.plain (OpenSpec.upto fnExactExprDocSpec)) fnExactExprDocUptoCard

/-- THE SECOND FORM's CARD OF 'laws.FnExactExprText'. -/
def fnExactExprTextUptoCard : Claim7 := { stood := { row := fnExactExprTextUptoRow, standIns := [], harness := (true, "da886e895d182d925afea6fce33144d692fc613ef9bce9d85114919e73457a49"), looks := false }, kinds := [], alts := [], laidByText := true, laidKinds := [.widerDeep, .data, .widerDeep], laidTests := true, laidLooks := .later }
def FnExactExprTextUptoCardSaid : Prop := Claim7.holds Tryz.pinned (.plain (OpenSpec.upto fnExactExprTextSpec)) fnExactExprTextUptoCard

/-- THE SECOND FORM's CARD OF 'laws.FnColors'. -/
def fnColorsUptoCard : Claim7 := { stood := { row := fnColorsUptoRow, standIns := [], harness := (true, "da886e895d182d925afea6fce33144d692fc613ef9bce9d85114919e73457a49"), looks := false }, kinds := [], alts := [], laidByText := true, laidKinds := [.widerDeep, .data, .widerDeep], laidTests := true, laidLooks := .later }
def FnColorsUptoCardSaid : Prop := Claim7.holds Tryz.pinned (.plain (OpenSpec.upto fnColorsSpec)) fnColorsUptoCard

/-- THE SECOND FORM's CARD OF 'laws.FnCursors'. -/
def fnCursorsUptoCard : Claim7 := { stood := { row := fnCursorsUptoRow, standIns := [], harness := (true, "da886e895d182d925afea6fce33144d692fc613ef9bce9d85114919e73457a49"), looks := false }, kinds := [], alts := [], laidByText := true, laidKinds := [.data, .data, .data, .data, .pinned], laidTests := true, laidLooks := .later }
def FnCursorsUptoCardSaid : Prop := Claim7.holds Tryz.pinned (.plain (OpenSpec.upto fnCursorsSpec)) fnCursorsUptoCard

/-- THE SECOND FORM's CARD OF 'laws.FnRelexed'. -/
def fnRelexedUptoCard : Claim7 := { stood := { row := fnRelexedUptoRow, standIns := [], harness := (true, "da886e895d182d925afea6fce33144d692fc613ef9bce9d85114919e73457a49"), looks := false }, kinds := [], alts := [], laidByText := true, laidKinds := [.widerDeep, .data, .widerDeep], laidTests := true, laidLooks := .later }
def FnRelexedUptoCardSaid : Prop := Claim7.holds Tryz.pinned (.plain (OpenSpec.upto fnRelexedSpec)) fnRelexedUptoCard
end Rows
end Go.Proofs.YtghlaehjpbjonaaGreatDoor
