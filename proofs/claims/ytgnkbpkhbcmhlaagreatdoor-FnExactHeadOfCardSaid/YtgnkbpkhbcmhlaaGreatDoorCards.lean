/-
  DERIVED. GIVEN WITH THE SEED: THE CARDS: each row of YtgnkbpkhbcmhlaaGreatDoorRows.lean that lists a variable, with what it lists TIED to the program's text (the seventh form; the later family's looks); each row that meets fmt, with fmt's text TOLD by the authors' own Lean function (tested against real Go, not proved from fmt's source: count such statements apart). THE CARD IS WHAT COUNTS. Prove the row's statement (the work); the ties are given (YtgnkbpkhbcmhlaaGreatDoorTie.lean); close each card by the builder's one call (the guide's Derived/Test/ToyasCard.lean, 'card_holds'). Laid BY PROGRAM, IN A SANDBOX (cutbox-door.mjs). By AI agents, Wed Nov 11 2026. No macro, syntax, notation, axiom, sorry.
-/
import Derived.Test.YtgnkbpkhbcmhlaaGreatDoorRows
import GoSem.ClaimSeven
namespace Go.Proofs.YtgnkbpkhbcmhlaaGreatDoor
namespace Rows

/-- THE TIED CARD OF 'laws.FnExactExprDoc'. -/
def fnExactExprDocCard : Claim7 := { stood := { row := fnExactExprDocRow, standIns := [], harness := (true, "37c7edef56258792f2a09a3e7500d4ac65e9ec8307c92312567383a29f4d8779"), looks := false }, kinds := [], alts := [], laidByText := true, laidKinds := [.widerDeep, .data, .widerDeep], laidTests := true, laidLooks := .later }
def FnExactExprDocCardSaid : Prop := Claim7.holds Tryz.pinned (.plain (OpenSpec.ofChange fnExactExprDocSpec)) fnExactExprDocCard

/-- THE TIED CARD OF 'laws.FnExactExprText'. -/
def fnExactExprTextCard : Claim7 := { stood := { row := fnExactExprTextRow, standIns := [], harness := (true, "37c7edef56258792f2a09a3e7500d4ac65e9ec8307c92312567383a29f4d8779"), looks := false }, kinds := [], alts := [], laidByText := true, laidKinds := [.widerDeep, .data, .widerDeep], laidTests := true, laidLooks := .later }
def FnExactExprTextCardSaid : Prop := Claim7.holds Tryz.pinned (.plain (OpenSpec.ofChange fnExactExprTextSpec)) fnExactExprTextCard

/-- THE TIED CARD OF 'laws.FnExactHeadOf'. -/
def fnExactHeadOfCard : Claim7 := { stood := { row := fnExactHeadOfRow, standIns := [], harness := (true, "37c7edef56258792f2a09a3e7500d4ac65e9ec8307c92312567383a29f4d8779"), looks := false }, kinds := [], alts := [], laidByText := true, laidKinds := [.widerDeep, .data, .widerDeep], laidTests := true, laidLooks := .later }
def FnExactHeadOfCardSaid : Prop := Claim7.holds Tryz.pinned (.plain (OpenSpec.ofChange fnExactHeadOfSpec)) fnExactHeadOfCard

/-- THE SECOND FORM's CARD OF 'laws.FnExactExprDoc'. -/
def fnExactExprDocUptoCard : Claim7 := { stood := { row := fnExactExprDocUptoRow, standIns := [], harness := (true, "37c7edef56258792f2a09a3e7500d4ac65e9ec8307c92312567383a29f4d8779"), looks := false }, kinds := [], alts := [], laidByText := true, laidKinds := [.widerDeep, .data, .widerDeep], laidTests := true, laidLooks := .later }
def FnExactExprDocUptoCardSaid : Prop := Claim7.holds Tryz.pinned (.plain (OpenSpec.upto fnExactExprDocSpec)) fnExactExprDocUptoCard

/-- THE SECOND FORM's CARD OF 'laws.FnExactExprText'. -/
def fnExactExprTextUptoCard : Claim7 := { stood := { row := fnExactExprTextUptoRow, standIns := [], harness := (true, "37c7edef56258792f2a09a3e7500d4ac65e9ec8307c92312567383a29f4d8779"), looks := false }, kinds := [], alts := [], laidByText := true, laidKinds := [.widerDeep, .data, .widerDeep], laidTests := true, laidLooks := .later }
def FnExactExprTextUptoCardSaid : Prop := Claim7.holds Tryz.pinned (.plain (OpenSpec.upto fnExactExprTextSpec)) fnExactExprTextUptoCard

/-- THE SECOND FORM's CARD OF 'laws.FnExactHeadOf'. -/
def fnExactHeadOfUptoCard : Claim7 := { stood := { row := fnExactHeadOfUptoRow, standIns := [], harness := (true, "37c7edef56258792f2a09a3e7500d4ac65e9ec8307c92312567383a29f4d8779"), looks := false }, kinds := [], alts := [], laidByText := true, laidKinds := [.widerDeep, .data, .widerDeep], laidTests := true, laidLooks := .later }
def FnExactHeadOfUptoCardSaid : Prop := Claim7.holds Tryz.pinned (.plain (OpenSpec.upto fnExactHeadOfSpec)) fnExactHeadOfUptoCard
end Rows
end Go.Proofs.YtgnkbpkhbcmhlaaGreatDoor
