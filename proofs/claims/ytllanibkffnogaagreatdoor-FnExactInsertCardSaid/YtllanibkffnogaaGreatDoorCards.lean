/-
  DERIVED. GIVEN WITH THE SEED: THE CARDS: each row of YtllanibkffnogaaGreatDoorRows.lean that lists a variable, with what it lists TIED to the program's text (the seventh form; the later family's looks); each row that meets fmt, with fmt's text TOLD by the authors' own Lean function (tested against real Go, not proved from fmt's source: count such statements apart). THE CARD IS WHAT COUNTS. Prove the row's statement (the work); the ties are given (YtllanibkffnogaaGreatDoorTie.lean); close each card by the builder's one call (the guide's Derived/Test/ToyasCard.lean, 'card_holds'). Laid BY PROGRAM, IN A SANDBOX (cutbox-door.mjs). By AI agents, Wed Nov 11 2026. No macro, syntax, notation, axiom, sorry.
-/
import Derived.Test.YtllanibkffnogaaGreatDoorRows
import GoSem.ClaimSeven
namespace Go.Proofs.YtllanibkffnogaaGreatDoor
namespace Rows

/-- THE TIED CARD OF 'laws.FnExactReadTree'. -/
def fnExactReadTreeCard : Claim7 := { stood := { row := fnExactReadTreeRow, standIns := [], harness := (true, "ef8a1205a7b9ff090898b265bc3b829ec6e7d3564ce2b53f0d5a610a0b663c7a"), looks := false }, kinds := [], alts := [], laidByText := true, laidKinds := [.widerDeep, .data, .widerDeep], laidTests := true, laidLooks := .later }
def FnExactReadTreeCardSaid : Prop := Claim7.holds Tryz.pinned (.plain (OpenSpec.ofChange fnExactReadTreeSpec)) fnExactReadTreeCard

/-- THE TIED CARD OF 'laws.FnExactFindAll'. -/
def fnExactFindAllCard : Claim7 := { stood := { row := fnExactFindAllRow, standIns := [], harness := (true, "ef8a1205a7b9ff090898b265bc3b829ec6e7d3564ce2b53f0d5a610a0b663c7a"), looks := false }, kinds := [], alts := [], laidByText := true, laidKinds := [.widerDeep, .data, .widerDeep], laidTests := true, laidLooks := .later }
def FnExactFindAllCardSaid : Prop := Claim7.holds Tryz.pinned (.plain (OpenSpec.ofChange fnExactFindAllSpec)) fnExactFindAllCard

/-- THE TIED CARD OF 'laws.FnExactMatch'. -/
def fnExactMatchCard : Claim7 := { stood := { row := fnExactMatchRow, standIns := [], harness := (true, "ef8a1205a7b9ff090898b265bc3b829ec6e7d3564ce2b53f0d5a610a0b663c7a"), looks := false }, kinds := [], alts := [], laidByText := true, laidKinds := [.widerDeep, .data, .widerDeep], laidTests := true, laidLooks := .later }
def FnExactMatchCardSaid : Prop := Claim7.holds Tryz.pinned (.plain (OpenSpec.ofChange fnExactMatchSpec)) fnExactMatchCard

/-- THE TIED CARD OF 'laws.FnExactInsert'. -/
def fnExactInsertCard : Claim7 := { stood := { row := fnExactInsertRow, standIns := [], harness := (true, "ef8a1205a7b9ff090898b265bc3b829ec6e7d3564ce2b53f0d5a610a0b663c7a"), looks := false }, kinds := [], alts := [], laidByText := true, laidKinds := [.widerDeep, .data, .widerDeep], laidTests := true, laidLooks := .later }
def FnExactInsertCardSaid : Prop := Claim7.holds Tryz.pinned (.plain (OpenSpec.ofChange fnExactInsertSpec)) fnExactInsertCard

/-- THE TIED CARD OF 'laws.FnExactRewrite'. -/
def fnExactRewriteCard : Claim7 := { stood := { row := fnExactRewriteRow, standIns := [], harness := (true, "ef8a1205a7b9ff090898b265bc3b829ec6e7d3564ce2b53f0d5a610a0b663c7a"), looks := false }, kinds := [], alts := [], laidByText := true, laidKinds := [.widerDeep, .data, .widerDeep], laidTests := true, laidLooks := .later }
def FnExactRewriteCardSaid : Prop := Claim7.holds Tryz.pinned (.plain (OpenSpec.ofChange fnExactRewriteSpec)) fnExactRewriteCard

/-- THE SECOND FORM's CARD OF 'laws.FnExactReadTree'. -/
def fnExactReadTreeUptoCard : Claim7 := { stood := { row := fnExactReadTreeUptoRow, standIns := [], harness := (true, "ef8a1205a7b9ff090898b265bc3b829ec6e7d3564ce2b53f0d5a610a0b663c7a"), looks := false }, kinds := [], alts := [], laidByText := true, laidKinds := [.widerDeep, .data, .widerDeep], laidTests := true, laidLooks := .later }
def FnExactReadTreeUptoCardSaid : Prop := Claim7.holds Tryz.pinned (.plain (OpenSpec.upto fnExactReadTreeSpec)) fnExactReadTreeUptoCard

/-- THE SECOND FORM's CARD OF 'laws.FnExactFindAll'. -/
def fnExactFindAllUptoCard : Claim7 := { stood := { row := fnExactFindAllUptoRow, standIns := [], harness := (true, "ef8a1205a7b9ff090898b265bc3b829ec6e7d3564ce2b53f0d5a610a0b663c7a"), looks := false }, kinds := [], alts := [], laidByText := true, laidKinds := [.widerDeep, .data, .widerDeep], laidTests := true, laidLooks := .later }
def FnExactFindAllUptoCardSaid : Prop := Claim7.holds Tryz.pinned (.plain (OpenSpec.upto fnExactFindAllSpec)) fnExactFindAllUptoCard

/-- THE SECOND FORM's CARD OF 'laws.FnExactMatch'. -/
def fnExactMatchUptoCard : Claim7 := { stood := { row := fnExactMatchUptoRow, standIns := [], harness := (true, "ef8a1205a7b9ff090898b265bc3b829ec6e7d3564ce2b53f0d5a610a0b663c7a"), looks := false }, kinds := [], alts := [], laidByText := true, laidKinds := [.widerDeep, .data, .widerDeep], laidTests := true, laidLooks := .later }
def FnExactMatchUptoCardSaid : Prop := Claim7.holds Tryz.pinned (.plain (OpenSpec.upto fnExactMatchSpec)) fnExactMatchUptoCard

/-- THE SECOND FORM's CARD OF 'laws.FnExactInsert'. -/
def fnExactInsertUptoCard : Claim7 := { stood := { row := fnExactInsertUptoRow, standIns := [], harness := (true, "ef8a1205a7b9ff090898b265bc3b829ec6e7d3564ce2b53f0d5a610a0b663c7a"), looks := false }, kinds := [], alts := [], laidByText := true, laidKinds := [.widerDeep, .data, .widerDeep], laidTests := true, laidLooks := .later }
def FnExactInsertUptoCardSaid : Prop := Claim7.holds Tryz.pinned (.plain (OpenSpec.upto fnExactInsertSpec)) fnExactInsertUptoCard

/-- THE SECOND FORM's CARD OF 'laws.FnExactRewrite'. -/
def fnExactRewriteUptoCard : Claim7 := { stood := { row := fnExactRewriteUptoRow, standIns := [], harness := (true, "ef8a1205a7b9ff090898b265bc3b829ec6e7d3564ce2b53f0d5a610a0b663c7a"), looks := false }, kinds := [], alts := [], laidByText := true, laidKinds := [.widerDeep, .data, .widerDeep], laidTests := true, laidLooks := .later }
def FnExactRewriteUptoCardSaid : Prop := Claim7.holds Tryz.pinned (.plain (OpenSpec.upto fnExactRewriteSpec)) fnExactRewriteUptoCard
end Rows
end Go.Proofs.YtllanibkffnogaaGreatDoor
