/-
  DERIVED. GIVEN WITH THE SEED: THE CARDS: each row of YtkfpmbinifaakaaGreatDoorRows.lean that lists a variable, with what it lists TIED to the program's text (the seventh form; the later family's looks); each row that meets fmt, with fmt's text TOLD by the authors' own Lean function (tested against real Go, not proved from fmt's source: count such statements apart). THE CARD IS WHAT COUNTS. Prove the row's statement (the work); the ties are given (YtkfpmbinifaakaaGreatDoorTie.lean); close each card by the builder's one call (the guide's Derived/Test/ToyasCard.lean, 'card_holds'). Laid BY PROGRAM, IN A SANDBOX (cutbox-door.mjs). By AI agents, Wed Nov 11 2026. No macro, syntax, notation, axiom, sorry.
-/
import Derived.Test.YtkfpmbinifaakaaGreatDoorRows
import GoSem.ClaimSeven
namespace Go.Proofs.YtkfpmbinifaakaaGreatDoor
namespace Rows

/-- THE TIED CARD OF 'laws.FnExactReadTree'. -/
def fnExactReadTreeCard : Claim7 := { stood := { row := fnExactReadTreeRow, standIns := [], harness := (true, "eab3a0d7134bf4612cfb1c97e08315ef20c0f79de4c44aa8b68f085a2b6e9ce2"), looks := false }, kinds := [], alts := [], laidByText := true, laidKinds := [.widerDeep, .data, .widerDeep], laidTests := true, laidLooks := .later }
def FnExactReadTreeCardSaid : Prop := Claim7.holds Tryz.pinned (.plain (OpenSpec.ofChange fnExactReadTreeSpec)) fnExactReadTreeCard

/-- THE TIED CARD OF 'laws.FnExactFlip'. -/
def fnExactFlipCard : Claim7 := { stood := { row := fnExactFlipRow, standIns := [], harness := (true, "eab3a0d7134bf4612cfb1c97e08315ef20c0f79de4c44aa8b68f085a2b6e9ce2"), looks := false }, kinds := [], alts := [], laidByText := true, laidKinds := [.widerDeep, .data, .widerDeep], laidTests := true, laidLooks := .later }
def FnExactFlipCardSaid : Prop := Claim7.holds Tryz.pinned (.plain (OpenSpec.ofChange fnExactFlipSpec)) fnExactFlipCard

/-- THE TIED CARD OF 'laws.FnExactRemove'. -/
def fnExactRemoveCard : Claim7 := { stood := { row := fnExactRemoveRow, standIns := [], harness := (true, "eab3a0d7134bf4612cfb1c97e08315ef20c0f79de4c44aa8b68f085a2b6e9ce2"), looks := false }, kinds := [], alts := [], laidByText := true, laidKinds := [.widerDeep, .data, .widerDeep], laidTests := true, laidLooks := .later }
def FnExactRemoveCardSaid : Prop := Claim7.holds Tryz.pinned (.plain (OpenSpec.ofChange fnExactRemoveSpec)) fnExactRemoveCard

/-- THE TIED CARD OF 'laws.FnExactReplace'. -/
def fnExactReplaceCard : Claim7 := { stood := { row := fnExactReplaceRow, standIns := [], harness := (true, "eab3a0d7134bf4612cfb1c97e08315ef20c0f79de4c44aa8b68f085a2b6e9ce2"), looks := false }, kinds := [], alts := [], laidByText := true, laidKinds := [.widerDeep, .data, .widerDeep], laidTests := true, laidLooks := .later }
def FnExactReplaceCardSaid : Prop := Claim7.holds Tryz.pinned (.plain (OpenSpec.ofChange fnExactReplaceSpec)) fnExactReplaceCard

/-- THE TIED CARD OF 'laws.FnExactFindAll'. -/
def fnExactFindAllCard : Claim7 := { stood := { row := fnExactFindAllRow, standIns := [], harness := (true, "eab3a0d7134bf4612cfb1c97e08315ef20c0f79de4c44aa8b68f085a2b6e9ce2"), looks := false }, kinds := [], alts := [], laidByText := true, laidKinds := [.widerDeep, .data, .widerDeep], laidTests := true, laidLooks := .later }
def FnExactFindAllCardSaid : Prop := Claim7.holds Tryz.pinned (.plain (OpenSpec.ofChange fnExactFindAllSpec)) fnExactFindAllCard

/-- THE TIED CARD OF 'laws.FnExactNegate'. -/
def fnExactNegateCard : Claim7 := { stood := { row := fnExactNegateRow, standIns := [], harness := (true, "eab3a0d7134bf4612cfb1c97e08315ef20c0f79de4c44aa8b68f085a2b6e9ce2"), looks := false }, kinds := [], alts := [], laidByText := true, laidKinds := [.widerDeep, .data, .widerDeep], laidTests := true, laidLooks := .later }
def FnExactNegateCardSaid : Prop := Claim7.holds Tryz.pinned (.plain (OpenSpec.ofChange fnExactNegateSpec)) fnExactNegateCard

/-- THE TIED CARD OF 'laws.FnExactPushNot'. -/
def fnExactPushNotCard : Claim7 := { stood := { row := fnExactPushNotRow, standIns := [], harness := (true, "eab3a0d7134bf4612cfb1c97e08315ef20c0f79de4c44aa8b68f085a2b6e9ce2"), looks := false }, kinds := [], alts := [], laidByText := true, laidKinds := [.widerDeep, .data, .widerDeep], laidTests := true, laidLooks := .later }
def FnExactPushNotCardSaid : Prop := Claim7.holds Tryz.pinned (.plain (OpenSpec.ofChange fnExactPushNotSpec)) fnExactPushNotCard

/-- THE TIED CARD OF 'laws.FnExactMatch'. -/
def fnExactMatchCard : Claim7 := { stood := { row := fnExactMatchRow, standIns := [], harness := (true, "eab3a0d7134bf4612cfb1c97e08315ef20c0f79de4c44aa8b68f085a2b6e9ce2"), looks := false }, kinds := [], alts := [], laidByText := true, laidKinds := [.widerDeep, .data, .widerDeep], laidTests := true, laidLooks := .later }
def FnExactMatchCardSaid : Prop := Claim7.holds Tryz.pinned (.plain (OpenSpec.ofChange fnExactMatchSpec)) fnExactMatchCard

/-- THE TIED CARD OF 'laws.FnExactInsert'. -/
def fnExactInsertCard : Claim7 := { stood := { row := fnExactInsertRow, standIns := [], harness := (true, "eab3a0d7134bf4612cfb1c97e08315ef20c0f79de4c44aa8b68f085a2b6e9ce2"), looks := false }, kinds := [], alts := [], laidByText := true, laidKinds := [.widerDeep, .data, .widerDeep], laidTests := true, laidLooks := .later }
def FnExactInsertCardSaid : Prop := Claim7.holds Tryz.pinned (.plain (OpenSpec.ofChange fnExactInsertSpec)) fnExactInsertCard

/-- THE SECOND FORM's CARD OF 'laws.FnExactReadTree'. -/
def fnExactReadTreeUptoCard : Claim7 := { stood := { row := fnExactReadTreeUptoRow, standIns := [], harness := (true, "eab3a0d7134bf4612cfb1c97e08315ef20c0f79de4c44aa8b68f085a2b6e9ce2"), looks := false }, kinds := [], alts := [], laidByText := true, laidKinds := [.widerDeep, .data, .widerDeep], laidTests := true, laidLooks := .later }
def FnExactReadTreeUptoCardSaid : Prop := Claim7.holds Tryz.pinned (.plain (OpenSpec.upto fnExactReadTreeSpec)) fnExactReadTreeUptoCard

/-- THE SECOND FORM's CARD OF 'laws.FnExactFlip'. -/
def fnExactFlipUptoCard : Claim7 := { stood := { row := fnExactFlipUptoRow, standIns := [], harness := (true, "eab3a0d7134bf4612cfb1c97e08315ef20c0f79de4c44aa8b68f085a2b6e9ce2"), looks := false }, kinds := [], alts := [], laidByText := true, laidKinds := [.widerDeep, .data, .widerDeep], laidTests := true, laidLooks := .later }
def FnExactFlipUptoCardSaid : Prop := Claim7.holds Tryz.pinned (.plain (OpenSpec.upto fnExactFlipSpec)) fnExactFlipUptoCard

/-- THE SECOND FORM's CARD OF 'laws.FnExactRemove'. -/
def fnExactRemoveUptoCard : Claim7 := { stood := { row := fnExactRemoveUptoRow, standIns := [], harness := (true, "eab3a0d7134bf4612cfb1c97e08315ef20c0f79de4c44aa8b68f085a2b6e9ce2"), looks := false }, kinds := [], alts := [], laidByText := true, laidKinds := [.widerDeep, .data, .widerDeep], laidTests := true, laidLooks := .later }
def FnExactRemoveUptoCardSaid : Prop := Claim7.holds Tryz.pinned (.plain (OpenSpec.upto fnExactRemoveSpec)) fnExactRemoveUptoCard

/-- THE SECOND FORM's CARD OF 'laws.FnExactReplace'. -/
def fnExactReplaceUptoCard : Claim7 := { stood := { row := fnExactReplaceUptoRow, standIns := [], harness := (true, "eab3a0d7134bf4612cfb1c97e08315ef20c0f79de4c44aa8b68f085a2b6e9ce2"), looks := false }, kinds := [], alts := [], laidByText := true, laidKinds := [.widerDeep, .data, .widerDeep], laidTests := true, laidLooks := .later }
def FnExactReplaceUptoCardSaid : Prop := Claim7.holds Tryz.pinned (.plain (OpenSpec.upto fnExactReplaceSpec)) fnExactReplaceUptoCard

/-- THE SECOND FORM's CARD OF 'laws.FnExactFindAll'. -/
def fnExactFindAllUptoCard : Claim7 := { stood := { row := fnExactFindAllUptoRow, standIns := [], harness := (true, "eab3a0d7134bf4612cfb1c97e08315ef20c0f79de4c44aa8b68f085a2b6e9ce2"), looks := false }, kinds := [], alts := [], laidByText := true, laidKinds := [.widerDeep, .data, .widerDeep], laidTests := true, laidLooks := .later }
def FnExactFindAllUptoCardSaid : Prop := Claim7.holds Tryz.pinned (.plain (OpenSpec.upto fnExactFindAllSpec)) fnExactFindAllUptoCard

/-- THE SECOND FORM's CARD OF 'laws.FnExactNegate'. -/
def fnExactNegateUptoCard : Claim7 := { stood := { row := fnExactNegateUptoRow, standIns := [], harness := (true, "eab3a0d7134bf4612cfb1c97e08315ef20c0f79de4c44aa8b68f085a2b6e9ce2"), looks := false }, kinds := [], alts := [], laidByText := true, laidKinds := [.widerDeep, .data, .widerDeep], laidTests := true, laidLooks := .later }
def FnExactNegateUptoCardSaid : Prop := Claim7.holds Tryz.pinned (.plain (OpenSpec.upto fnExactNegateSpec)) fnExactNegateUptoCard

/-- THE SECOND FORM's CARD OF 'laws.FnExactPushNot'. -/
def fnExactPushNotUptoCard : Claim7 := { stood := { row := fnExactPushNotUptoRow, standIns := [], harness := (true, "eab3a0d7134bf4612cfb1c97e08315ef20c0f79de4c44aa8b68f085a2b6e9ce2"), looks := false }, kinds := [], alts := [], laidByText := true, laidKinds := [.widerDeep, .data, .widerDeep], laidTests := true, laidLooks := .later }
def FnExactPushNotUptoCardSaid : Prop := Claim7.holds Tryz.pinned (.plain (OpenSpec.upto fnExactPushNotSpec)) fnExactPushNotUptoCard

/-- THE SECOND FORM's CARD OF 'laws.FnExactMatch'. -/
def fnExactMatchUptoCard : Claim7 := { stood := { row := fnExactMatchUptoRow, standIns := [], harness := (true, "eab3a0d7134bf4612cfb1c97e08315ef20c0f79de4c44aa8b68f085a2b6e9ce2"), looks := false }, kinds := [], alts := [], laidByText := true, laidKinds := [.widerDeep, .data, .widerDeep], laidTests := true, laidLooks := .later }
def FnExactMatchUptoCardSaid : Prop := Claim7.holds Tryz.pinned (.plain (OpenSpec.upto fnExactMatchSpec)) fnExactMatchUptoCard

/-- THE SECOND FORM's CARD OF 'laws.FnExactInsert'. -/
def fnExactInsertUptoCard : Claim7 := { stood := { row := fnExactInsertUptoRow, standIns := [], harness := (true, "eab3a0d7134bf4612cfb1c97e08315ef20c0f79de4c44aa8b68f085a2b6e9ce2"), looks := false }, kinds := [], alts := [], laidByText := true, laidKinds := [.widerDeep, .data, .widerDeep], laidTests := true, laidLooks := .later }
def FnExactInsertUptoCardSaid : Prop := Claim7.holds Tryz.pinned (.plain (OpenSpec.upto fnExactInsertSpec)) fnExactInsertUptoCard
end Rows
end Go.Proofs.YtkfpmbinifaakaaGreatDoor
