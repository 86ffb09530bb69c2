/-
  DERIVED. GIVEN WITH THE SEED: THE CARDS: each row of YthgednmgmjmmpaaGreatDoorRows.lean that lists a variable, with what it lists TIED to the program's text (the seventh form; the later family's looks); each row that meets fmt, with fmt's text TOLD by the authors' own Lean function (tested against real Go, not proved from fmt's source: count such statements apart). THE CARD IS WHAT COUNTS. Prove the row's statement (the work); the ties are given (YthgednmgmjmmpaaGreatDoorTie.lean); close each card by the builder's one call (the guide's Derived/Test/ToyasCard.lean, 'card_holds'). Laid BY PROGRAM, IN A SANDBOX (cutbox-door.mjs). By AI agents, Wed Nov 11 2026. No macro, syntax, notation, axiom, sorry.
-/
import Derived.Test.YthgednmgmjmmpaaGreatDoorRows
import GoSem.ClaimSeven
namespace Go.Proofs.YthgednmgmjmmpaaGreatDoor
namespace Rows

/-- THE TIED CARD OF 'laws.FnExactNeedless'. -/
def fnExactNeedlessCard : Claim7 := { stood := { row := fnExactNeedlessRow, standIns := [], harness := (true, "273e26598b26abd172f22c89e3c8981ea4f324205a3fd987dda238ebcca2db4f"), looks := false }, kinds := [], alts := [], laidByText := true, laidKinds := [.widerDeep, .data, .widerDeep], laidTests := true, laidLooks := .later }
def FnExactNeedlessCardSaid : Prop := Claim7.holds Tryz.pinned (.plain (OpenSpec.ofChange fnExactNeedlessSpec)) fnExactNeedlessCard

/-- THE TIED CARD OF 'laws.FnExactReduce'. -/
def fnExactReduceCard : Claim7 := { stood := { row := fnExactReduceRow, standIns := [], harness := (true, "273e26598b26abd172f22c89e3c8981ea4f324205a3fd987dda238ebcca2db4f"), looks := false }, kinds := [], alts := [], laidByText := true, laidKinds := [.widerDeep, .data, .widerDeep], laidTests := true, laidLooks := .later }
def FnExactReduceCardSaid : Prop := Claim7.holds Tryz.pinned (.plain (OpenSpec.ofChange fnExactReduceSpec)) fnExactReduceCard

/-- THE TIED CARD OF 'laws.FnExactReadExpr'. -/
def fnExactReadExprCard : Claim7 := { stood := { row := fnExactReadExprRow, standIns := [], harness := (true, "273e26598b26abd172f22c89e3c8981ea4f324205a3fd987dda238ebcca2db4f"), looks := false }, kinds := [], alts := [], laidByText := true, laidKinds := [.widerDeep, .data, .widerDeep], laidTests := true, laidLooks := .later }
def FnExactReadExprCardSaid : Prop := Claim7.holds Tryz.pinned (.plain (OpenSpec.ofChange fnExactReadExprSpec)) fnExactReadExprCard

/-- THE SECOND FORM's CARD OF 'laws.FnExactNeedless'. -/
def fnExactNeedlessUptoCard : Claim7 := { stood := { row := fnExactNeedlessUptoRow, standIns := [], harness := (true, "273e26598b26abd172f22c89e3c8981ea4f324205a3fd987dda238ebcca2db4f"), looks := false }, kinds := [], alts := [], laidByText := true, laidKinds := [.widerDeep, .data, .widerDeep], laidTests := true, laidLooks := .later }
def FnExactNeedlessUptoCardSaid : Prop := Claim7.holds Tryz.pinned (.plain (OpenSpec.upto fnExactNeedlessSpec)) fnExactNeedlessUptoCard

/-- THE SECOND FORM's CARD OF 'laws.FnExactReduce'. -/
def fnExactReduceUptoCard : Claim7 := { stood := { row := fnExactReduceUptoRow, standIns := [], harness := (true, "273e26598b26abd172f22c89e3c8981ea4f324205a3fd987dda238ebcca2db4f"), looks := false }, kinds := [], alts := [], laidByText := true, laidKinds := [.widerDeep, .data, .widerDeep], laidTests := true, laidLooks := .later }
def FnExactReduceUptoCardSaid : Prop := Claim7.holds Tryz.pinned (.plain (OpenSpec.upto fnExactReduceSpec)) fnExactReduceUptoCard

/-- THE SECOND FORM's CARD OF 'laws.FnExactReadExpr'. -/
def fnExactReadExprUptoCard : Claim7 := { stood := { row := fnExactReadExprUptoRow, standIns := [], harness := (true, "273e26598b26abd172f22c89e3c8981ea4f324205a3fd987dda238ebcca2db4f"), looks := false }, kinds := [], alts := [], laidByText := true, laidKinds := [.widerDeep, .data, .widerDeep], laidTests := true, laidLooks := .later }
def FnExactReadExprUptoCardSaid : Prop := Claim7.holds Tryz.pinned (.plain (OpenSpec.upto fnExactReadExprSpec)) fnExactReadExprUptoCard
end Rows
end Go.Proofs.YthgednmgmjmmpaaGreatDoor
