/-
  DERIVED. GIVEN WITH THE SEED: THE CARDS: each row of YtginnhpghngjiaaGreatDoorRows.lean that lists a variable, with what it lists TIED to the program's text (the seventh form; the later family's looks); each row that meets fmt, with fmt's text TOLD by the authors' own Lean function (tested against real Go, not proved from fmt's source: count such statements apart). THE CARD IS WHAT COUNTS. Prove the row's statement (the work); the ties are given (YtginnhpghngjiaaGreatDoorTie.lean); close each card by the builder's one call (the guide's Derived/Test/ToyasCard.lean, 'card_holds'). Laid BY PROGRAM, IN A SANDBOX (cutbox-door.mjs). By AI agents, Wed Nov 11 2026. No macro, syntax, notation, axiom, sorry.
-/
import Derived.Test.YtginnhpghngjiaaGreatDoorRows
import GoSem.ClaimSeven
namespace Go.Proofs.YtginnhpghngjiaaGreatDoor
namespace Rows

/-- THE TIED CARD OF 'laws.FnSpans'. -/
def fnSpansCard : Claim7 := { stood := { row := fnSpansRow, standIns := [], harness := (true, "5d63ee9a290f5e610549d85afd59371f723a8c08fbe68c9ff3b2e9e36b3991b3"), looks := false }, kinds := [], alts := [], laidByText := true, laidKinds := [.widerDeep, .data, .widerDeep], laidTests := true, laidLooks := .later }
def FnSpansCardSaid : Prop := Claim7.holds Tryz.pinned (.plain (OpenSpec.ofChange fnSpansSpec)) fnSpansCard

/-- THE SECOND FORM's CARD OF 'laws.FnSpans'. -/
def fnSpansUptoCard : Claim7 := { stood := { row := fnSpansUptoRow, standIns := [], harness := (true, "5d63ee9a290f5e610549d85afd59371f723a8c08fbe68c9ff3b2e9e36b3991b3"), looks := false }, kinds := [], alts := [], laidByText := true, laidKinds := [.widerDeep, .data, .widerDeep], laidTests := true, laidLooks := .later }
def FnSpansUptoCardSaid : Prop := Claim7.holds Tryz.pinned (.plain (OpenSpec.upto fnSpansSpec)) fnSpansUptoCard
end Rows
end Go.Proofs.YtginnhpghngjiaaGreatDoor
