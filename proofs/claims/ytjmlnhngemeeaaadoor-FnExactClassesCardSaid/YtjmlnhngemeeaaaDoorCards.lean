/-
  DERIVED. GIVEN WITH THE SEED: THE CARDS: each row of YtjmlnhngemeeaaaDoorRows.lean that lists a variable, with what it lists TIED to the program's text (the seventh form; the later family's looks); each row that meets fmt, with fmt's text TOLD by the authors' own Lean function (tested against real Go, not proved from fmt's source: count such statements apart). THE CARD IS WHAT COUNTS. Prove the row's statement (the work); the ties are given (YtjmlnhngemeeaaaDoorTie.lean); close each card by the builder's one call (the guide's Derived/Test/ToyasCard.lean, 'card_holds'). Laid BY PROGRAM, IN A SANDBOX (cutbox-door.mjs). By AI agents, Wed Nov 11 2026. No macro, syntax, notation, axiom, sorry.
-/
import Derived.Test.YtjmlnhngemeeaaaDoorRows
import GoSem.ClaimSeven
namespace Go.Proofs.YtjmlnhngemeeaaaDoor
namespace Rows

/-- THE TIED CARD OF 'laws.FnExactMinTokens'. -/
def fnExactMinTokensCard : Claim7 := { stood := { row := fnExactMinTokensRow, standIns := [], harness := (true, "07eaec5f2b6f543fb5cdbfe2ffb1fd1099b65945ea79c247d38cdfda68164ca3"), looks := false }, kinds := [], alts := [], laidByText := true, laidKinds := [.widerDeep, .data], laidTests := true, laidLooks := .later }
def FnExactMinTokensCardSaid : Prop := Claim7.holds Tryd.pinned (.plain (OpenSpec.ofChange fnExactMinTokensSpec)) fnExactMinTokensCard

/-- THE TIED CARD OF 'laws.FnExactOffsetOf'. -/
def fnExactOffsetOfCard : Claim7 := { stood := { row := fnExactOffsetOfRow, standIns := [], harness := (true, "07eaec5f2b6f543fb5cdbfe2ffb1fd1099b65945ea79c247d38cdfda68164ca3"), looks := false }, kinds := [], alts := [], laidByText := true, laidKinds := [.data, .pinned], laidTests := true, laidLooks := .later }
def FnExactOffsetOfCardSaid : Prop := Claim7.holds Tryd.pinned (.plain (OpenSpec.ofChange fnExactOffsetOfSpec)) fnExactOffsetOfCard

/-- THE TIED CARD OF 'laws.FnExactFaultText'. -/
def fnExactFaultTextCard : Claim7 := { stood := { row := fnExactFaultTextRow, standIns := [], harness := (true, "07eaec5f2b6f543fb5cdbfe2ffb1fd1099b65945ea79c247d38cdfda68164ca3"), looks := false }, kinds := [], alts := [], laidByText := true, laidKinds := [.data, .data, .data], laidTests := true, laidLooks := .later }
def FnExactFaultTextCardSaid : Prop := Claim7.holds Tryd.pinned (.plain (OpenSpec.ofChange fnExactFaultTextSpec)) fnExactFaultTextCard

/-- THE TIED CARD OF 'laws.FnExactClasses'. -/
def fnExactClassesCard : Claim7 := { stood := { row := fnExactClassesRow, standIns := [], harness := (true, "07eaec5f2b6f543fb5cdbfe2ffb1fd1099b65945ea79c247d38cdfda68164ca3"), looks := false }, kinds := [], alts := [], laidByText := true, laidKinds := [.widerDeep, .data, .widerDeep], laidTests := true, laidLooks := .later }
def FnExactClassesCardSaid : Prop := Claim7.holds Tryd.pinned (.plain (OpenSpec.ofChange fnExactClassesSpec)) fnExactClassesCard

/-- THE SECOND FORM's CARD OF 'laws.FnExactMinTokens'. -/
def fnExactMinTokensUptoCard : Claim7 := { stood := { row := fnExactMinTokensUptoRow, standIns := [], harness := (true, "07eaec5f2b6f543fb5cdbfe2ffb1fd1099b65945ea79c247d38cdfda68164ca3"), looks := false }, kinds := [], alts := [], laidByText := true, laidKinds := [.widerDeep, .data], laidTests := true, laidLooks := .later }
def FnExactMinTokensUptoCardSaid : Prop := Claim7.holds Tryd.pinned (.plain (OpenSpec.upto fnExactMinTokensSpec)) fnExactMinTokensUptoCard

/-- THE SECOND FORM's CARD OF 'laws.FnExactOffsetOf'. -/
def fnExactOffsetOfUptoCard : Claim7 := { stood := { row := fnExactOffsetOfUptoRow, standIns := [], harness := (true, "07eaec5f2b6f543fb5cdbfe2ffb1fd1099b65945ea79c247d38cdfda68164ca3"), looks := false }, kinds := [], alts := [], laidByText := true, laidKinds := [.data, .pinned], laidTests := true, laidLooks := .later }
def FnExactOffsetOfUptoCardSaid : Prop := Claim7.holds Tryd.pinned (.plain (OpenSpec.upto fnExactOffsetOfSpec)) fnExactOffsetOfUptoCard

/-- THE SECOND FORM's CARD OF 'laws.FnExactFaultText'. -/
def fnExactFaultTextUptoCard : Claim7 := { stood := { row := fnExactFaultTextUptoRow, standIns := [], harness := (true, "07eaec5f2b6f543fb5cdbfe2ffb1fd1099b65945ea79c247d38cdfda68164ca3"), looks := false }, kinds := [], alts := [], laidByText := true, laidKinds := [.data, .data, .data], laidTests := true, laidLooks := .later }
def FnExactFaultTextUptoCardSaid : Prop := Claim7.holds Tryd.pinned (.plain (OpenSpec.upto fnExactFaultTextSpec)) fnExactFaultTextUptoCard

/-- THE SECOND FORM's CARD OF 'laws.FnExactClasses'. -/
def fnExactClassesUptoCard : Claim7 := { stood := { row := fnExactClassesUptoRow, standIns := [], harness := (true, "07eaec5f2b6f543fb5cdbfe2ffb1fd1099b65945ea79c247d38cdfda68164ca3"), looks := false }, kinds := [], alts := [], laidByText := true, laidKinds := [.widerDeep, .data, .widerDeep], laidTests := true, laidLooks := .later }
def FnExactClassesUptoCardSaid : Prop := Claim7.holds Tryd.pinned (.plain (OpenSpec.upto fnExactClassesSpec)) fnExactClassesUptoCard
end Rows
end Go.Proofs.YtjmlnhngemeeaaaDoor
