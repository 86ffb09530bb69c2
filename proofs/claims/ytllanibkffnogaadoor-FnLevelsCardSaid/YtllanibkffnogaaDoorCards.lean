/-
  DERIVED. GIVEN WITH THE SEED: THE CARDS: each row of YtllanibkffnogaaDoorRows.lean that lists a variable, with what it lists TIED to the program's text (the seventh form; the later family's looks); each row that meets fmt, with fmt's text TOLD by the authors' own Lean function (tested against real Go, not proved from fmt's source: count such statements apart). THE CARD IS WHAT COUNTS. Prove the row's statement (the work); the ties are given (YtllanibkffnogaaDoorTie.lean); close each card by the builder's one call (the guide's Derived/Test/ToyasCard.lean, 'card_holds'). Laid BY PROGRAM, IN A SANDBOX (cutbox-door.mjs). By AI agents, Wed Nov 11 2026. No macro, syntax, notation, axiom, sorry.
-/
import Derived.Test.YtllanibkffnogaaDoorRows
import GoSem.ClaimSeven
namespace Go.Proofs.YtllanibkffnogaaDoor
namespace Rows

/-- THE TIED CARD OF 'laws.FnDocs'. -/
def fnDocsCard : Claim7 := { stood := { row := fnDocsRow, standIns := [], harness := (true, "1640a7148395b1568409863b3c4c1cb19eae9e24384379c5ca45b1cb6ddec8e4"), looks := false }, kinds := [], alts := [], laidByText := true, laidKinds := [.data, .pinned], laidTests := true, laidLooks := .later }
def FnDocsCardSaid : Prop := Claim7.holds Tryd.pinned (.plain (OpenSpec.ofChange fnDocsSpec)) fnDocsCard

/-- THE TIED CARD OF 'laws.FnArgs'. -/
def fnArgsCard : Claim7 := { stood := { row := fnArgsRow, standIns := [], harness := (true, "1640a7148395b1568409863b3c4c1cb19eae9e24384379c5ca45b1cb6ddec8e4"), looks := false }, kinds := [], alts := [], laidByText := true, laidKinds := [.widerDeep, .data, .widerDeep], laidTests := true, laidLooks := .later }
def FnArgsCardSaid : Prop := Claim7.holds Tryd.pinned (.plain (OpenSpec.ofChange fnArgsSpec)) fnArgsCard

/-- THE TIED CARD OF 'laws.FnDeep'. -/
def fnDeepCard : Claim7 := { stood := { row := fnDeepRow, standIns := [], harness := (true, "1640a7148395b1568409863b3c4c1cb19eae9e24384379c5ca45b1cb6ddec8e4"), looks := false }, kinds := [], alts := [], laidByText := true, laidKinds := [.widerDeep, .data, .widerDeep], laidTests := true, laidLooks := .later }
def FnDeepCardSaid : Prop := Claim7.holds Tryd.pinned (.plain (OpenSpec.ofChange fnDeepSpec)) fnDeepCard

/-- THE TIED CARD OF 'laws.FnLevels'. -/
def fnLevelsCard : Claim7 := { stood := { row := fnLevelsRow, standIns := [], harness := (true, "1640a7148395b1568409863b3c4c1cb19eae9e24384379c5ca45b1cb6ddec8e4"), looks := false }, kinds := [], alts := [], laidByText := true, laidKinds := [.widerDeep, .data, .widerDeep], laidTests := true, laidLooks := .later }
def FnLevelsCardSaid : Prop := Claim7.holds Tryd.pinned (.plain (OpenSpec.ofChange fnLevelsSpec)) fnLevelsCard

/-- THE TIED CARD OF 'laws.FnExactFaultText'. -/
def fnExactFaultTextCard : Claim7 := { stood := { row := fnExactFaultTextRow, standIns := [], harness := (true, "1640a7148395b1568409863b3c4c1cb19eae9e24384379c5ca45b1cb6ddec8e4"), looks := false }, kinds := [], alts := [], laidByText := true, laidKinds := [.data, .data, .data], laidTests := true, laidLooks := .later }
def FnExactFaultTextCardSaid : Prop := Claim7.holds Tryd.pinned (.plain (OpenSpec.ofChange fnExactFaultTextSpec)) fnExactFaultTextCard

/-- THE SECOND FORM's CARD OF 'laws.FnDocs'. -/
def fnDocsUptoCard : Claim7 := { stood := { row := fnDocsUptoRow, standIns := [], harness := (true, "1640a7148395b1568409863b3c4c1cb19eae9e24384379c5ca45b1cb6ddec8e4"), looks := false }, kinds := [], alts := [], laidByText := true, laidKinds := [.data, .pinned], laidTests := true, laidLooks := .later }
def FnDocsUptoCardSaid : Prop := Claim7.holds Tryd.pinned (.plain (OpenSpec.upto fnDocsSpec)) fnDocsUptoCard

/-- THE SECOND FORM's CARD OF 'laws.FnArgs'. -/
def fnArgsUptoCard : Claim7 := { stood := { row := fnArgsUptoRow, standIns := [], harness := (true, "1640a7148395b1568409863b3c4c1cb19eae9e24384379c5ca45b1cb6ddec8e4"), looks := false }, kinds := [], alts := [], laidByText := true, laidKinds := [.widerDeep, .data, .widerDeep], laidTests := true, laidLooks := .later }
def FnArgsUptoCardSaid : Prop := Claim7.holds Tryd.pinned (.plain (OpenSpec.upto fnArgsSpec)) fnArgsUptoCard

/-- THE SECOND FORM's CARD OF 'laws.FnDeep'. -/
def fnDeepUptoCard : Claim7 := { stood := { row := fnDeepUptoRow, standIns := [], harness := (true, "1640a7148395b1568409863b3c4c1cb19eae9e24384379c5ca45b1cb6ddec8e4"), looks := false }, kinds := [], alts := [], laidByText := true, laidKinds := [.widerDeep, .data, .widerDeep], laidTests := true, laidLooks := .later }
def FnDeepUptoCardSaid : Prop := Claim7.holds Tryd.pinned (.plain (OpenSpec.upto fnDeepSpec)) fnDeepUptoCard

/-- THE SECOND FORM's CARD OF 'laws.FnLevels'. -/
def fnLevelsUptoCard : Claim7 := { stood := { row := fnLevelsUptoRow, standIns := [], harness := (true, "1640a7148395b1568409863b3c4c1cb19eae9e24384379c5ca45b1cb6ddec8e4"), looks := false }, kinds := [], alts := [], laidByText := true, laidKinds := [.widerDeep, .data, .widerDeep], laidTests := true, laidLooks := .later }
def FnLevelsUptoCardSaid : Prop := Claim7.holds Tryd.pinned (.plain (OpenSpec.upto fnLevelsSpec)) fnLevelsUptoCard

/-- THE SECOND FORM's CARD OF 'laws.FnExactFaultText'. -/
def fnExactFaultTextUptoCard : Claim7 := { stood := { row := fnExactFaultTextUptoRow, standIns := [], harness := (true, "1640a7148395b1568409863b3c4c1cb19eae9e24384379c5ca45b1cb6ddec8e4"), looks := false }, kinds := [], alts := [], laidByText := true, laidKinds := [.data, .data, .data], laidTests := true, laidLooks := .later }
def FnExactFaultTextUptoCardSaid : Prop := Claim7.holds Tryd.pinned (.plain (OpenSpec.upto fnExactFaultTextSpec)) fnExactFaultTextUptoCard
end Rows
end Go.Proofs.YtllanibkffnogaaDoor
