/-
  DERIVED. GIVEN WITH THE SEED: THE CARDS: each row of YtkfpmbinifaakaaDoorRows.lean that lists a variable, with what it lists TIED to the program's text (the seventh form; the later family's looks); each row that meets fmt, with fmt's text TOLD by the authors' own Lean function (tested against real Go, not proved from fmt's source: count such statements apart). THE CARD IS WHAT COUNTS. Prove the row's statement (the work); the ties are given (YtkfpmbinifaakaaDoorTie.lean); close each card by the builder's one call (the guide's Derived/Test/ToyasCard.lean, 'card_holds'). Laid BY PROGRAM, IN A SANDBOX (cutbox-door.mjs). By AI agents, Wed Nov 11 2026. No macro, syntax, notation, axiom, sorry.
-/
import Derived.Test.YtkfpmbinifaakaaDoorRows
import GoSem.ClaimSeven
namespace Go.Proofs.YtkfpmbinifaakaaDoor
namespace Rows

/-- THE TIED CARD OF 'laws.FnExactShunts'. -/
def fnExactShuntsCard : Claim7 := { stood := { row := fnExactShuntsRow, standIns := [], harness := (true, "54ffc266608cc2e6673446166ae6a79450c25bbdae543b3332354ff804283c13"), looks := false }, kinds := [], alts := [], laidByText := true, laidKinds := [.widerDeep, .data, .widerDeep], laidTests := true, laidLooks := .later }
def FnExactShuntsCardSaid : Prop := Claim7.holds Tryd.pinned (.plain (OpenSpec.ofChange fnExactShuntsSpec)) fnExactShuntsCard

/-- THE TIED CARD OF 'laws.FnExactRelex'. -/
def fnExactRelexCard : Claim7 := { stood := { row := fnExactRelexRow, standIns := [], harness := (true, "54ffc266608cc2e6673446166ae6a79450c25bbdae543b3332354ff804283c13"), looks := false }, kinds := [], alts := [], laidByText := true, laidKinds := [.widerDeep, .data, .widerDeep], laidTests := true, laidLooks := .later }
def FnExactRelexCardSaid : Prop := Claim7.holds Tryd.pinned (.plain (OpenSpec.ofChange fnExactRelexSpec)) fnExactRelexCard

/-- THE TIED CARD OF 'laws.FnExactShowTree'. -/
def fnExactShowTreeCard : Claim7 := { stood := { row := fnExactShowTreeRow, standIns := [], harness := (true, "54ffc266608cc2e6673446166ae6a79450c25bbdae543b3332354ff804283c13"), looks := false }, kinds := [], alts := [], laidByText := true, laidKinds := [.widerDeep, .data, .widerDeep], laidTests := true, laidLooks := .later }
def FnExactShowTreeCardSaid : Prop := Claim7.holds Tryd.pinned (.plain (OpenSpec.ofChange fnExactShowTreeSpec)) fnExactShowTreeCard

/-- THE SECOND FORM's CARD OF 'laws.FnExactShunts'. -/
def fnExactShuntsUptoCard : Claim7 := { stood := { row := fnExactShuntsUptoRow, standIns := [], harness := (true, "54ffc266608cc2e6673446166ae6a79450c25bbdae543b3332354ff804283c13"), looks := false }, kinds := [], alts := [], laidByText := true, laidKinds := [.widerDeep, .data, .widerDeep], laidTests := true, laidLooks := .later }
def FnExactShuntsUptoCardSaid : Prop := Claim7.holds Tryd.pinned (.plain (OpenSpec.upto fnExactShuntsSpec)) fnExactShuntsUptoCard

/-- THE SECOND FORM's CARD OF 'laws.FnExactRelex'. -/
def fnExactRelexUptoCard : Claim7 := { stood := { row := fnExactRelexUptoRow, standIns := [], harness := (true, "54ffc266608cc2e6673446166ae6a79450c25bbdae543b3332354ff804283c13"), looks := false }, kinds := [], alts := [], laidByText := true, laidKinds := [.widerDeep, .data, .widerDeep], laidTests := true, laidLooks := .later }
def FnExactRelexUptoCardSaid : Prop := Claim7.holds Tryd.pinned (.plain (OpenSpec.upto fnExactRelexSpec)) fnExactRelexUptoCard

/-- THE SECOND FORM's CARD OF 'laws.FnExactShowTree'. -/
def fnExactShowTreeUptoCard : Claim7 := { stood := { row := fnExactShowTreeUptoRow, standIns := [], harness := (true, "54ffc266608cc2e6673446166ae6a79450c25bbdae543b3332354ff804283c13"), looks := false }, kinds := [], alts := [], laidByText := true, laidKinds := [.widerDeep, .data, .widerDeep], laidTests := true, laidLooks := .later }
def FnExactShowTreeUptoCardSaid : Prop := Claim7.holds Tryd.pinned (.plain (OpenSpec.upto fnExactShowTreeSpec)) fnExactShowTreeUptoCard
end Rows
end Go.Proofs.YtkfpmbinifaakaaDoor
