/-
  No cell of these rows narrows 'for every input' (looked for: loops, veiled, ifaces, maps, wideKeys, modest, calm, conditions, laid).
  DERIVED. THE GIVEN ROWS OF THIS SEAT. 8 by the template 'for every input the law returns true; each argument reads behind the call as it read before'; 0 by the template 'total and deterministic' (their statements: YtjmlnhngemeeaaaTotals.lean).
  GIVEN WITH THE SEED: the statements are not yours to turn. If you find one false, say at which input.
  Laid BY PROGRAM, IN A SANDBOX (cutbox-rows.mjs): the forced cells as the released guide's own fill.sh prints them over the translation 6006440813e94dd9… (all of the seat's roots in one cut). By AI agents, Wed Nov 11 2026. No macro, syntax, notation, axiom, sorry.
-/
import Derived.Test.YtjmlnhngemeeaaaChecked
import GoSem.Claim
import GoSem.ClaimJoined
import GoSem.ClaimMapViews
import Derived.JoinedTies
import Derived.KernelRfl
namespace Go.Proofs.Ytjmlnhngemeeaaa
/- THE CELL 'sum', in the pinned program and in every row, IS THE sha256 OF THE DUMP (.gsa) THAT YtjmlnhngemeeaaaProg.lean LOADS. Nothing in Lean hashes anything: it is a label: what it is worth is what the hold of that sum in a sandbox is worth. -/
noncomputable def Try.pinned : Pinned := { name := "ytjmlnhngemeeaaa", sum := "6006440813e94dd9f8b292012ca7fd9051a81ab261c4c04090a138f2a718feb4", checked := Try.checked }
namespace Rows
def none {H : Type} : Left H := { results := [], args := [] }

/-- 'laws.FnExactLeaves': WHATEVER THE INPUT: true; the input reads as it did. -/
def fnExactLeavesSpec : ChangeSpec := { name := "fnExactLeaves", fn := fun _ => fun
  | [d] => { results := [.lit (.bool true)], args := [d] }
  | _ => none }
def fnExactLeavesRow : OpenClaim := { program := "ytjmlnhngemeeaaa", sum := "6006440813e94dd9f8b292012ca7fd9051a81ab261c4c04090a138f2a718feb4", func := "loop.example/g01543/laws.FnExactLeaves", spec := "fnExactLeaves", apart := false }
def FnExactLeavesSaid : Prop := fnExactLeavesRow.holds Try.pinned (OpenSpec.ofChange fnExactLeavesSpec)

/-- ITS FALSE NEIGHBOUR: 'it returns false'. Refute it at one input. -/
def fnExactLeavesWrong : ChangeSpec := { name := "fnExactLeaves", fn := fun _ => fun
  | [d] => { results := [.lit (.bool false)], args := [d] }
  | _ => none }
def FnExactLeavesWrongFalsely : Prop := fnExactLeavesRow.holds Try.pinned (OpenSpec.ofChange fnExactLeavesWrong)

/-- 'laws.FnExactNots': WHATEVER THE INPUT: true; the input reads as it did. -/
def fnExactNotsSpec : ChangeSpec := { name := "fnExactNots", fn := fun _ => fun
  | [d] => { results := [.lit (.bool true)], args := [d] }
  | _ => none }
def fnExactNotsRow : OpenClaim := { program := "ytjmlnhngemeeaaa", sum := "6006440813e94dd9f8b292012ca7fd9051a81ab261c4c04090a138f2a718feb4", func := "loop.example/g01543/laws.FnExactNots", spec := "fnExactNots", apart := false }
def FnExactNotsSaid : Prop := fnExactNotsRow.holds Try.pinned (OpenSpec.ofChange fnExactNotsSpec)

/-- ITS FALSE NEIGHBOUR: 'it returns false'. Refute it at one input. -/
def fnExactNotsWrong : ChangeSpec := { name := "fnExactNots", fn := fun _ => fun
  | [d] => { results := [.lit (.bool false)], args := [d] }
  | _ => none }
def FnExactNotsWrongFalsely : Prop := fnExactNotsRow.holds Try.pinned (OpenSpec.ofChange fnExactNotsWrong)

/-- 'laws.FnExactLineCol': WHATEVER THE INPUT: true; the input reads as it did. -/
def fnExactLineColSpec : ChangeSpec := { name := "fnExactLineCol", fn := fun _ => fun
  | [d1, d2] => { results := [.lit (.bool true)], args := [d1, d2] }
  | _ => none }
def fnExactLineColRow : OpenClaim := { program := "ytjmlnhngemeeaaa", sum := "6006440813e94dd9f8b292012ca7fd9051a81ab261c4c04090a138f2a718feb4", func := "loop.example/g01543/laws.FnExactLineCol", spec := "fnExactLineCol", inPlace := ["internal/bytealg.CountString", "internal/bytealg.IndexByteString", "internal/bytealg.IndexString"], named := ["internal/bytealg.MaxLen"], apart := false }
def FnExactLineColSaid : Prop := fnExactLineColRow.holds Try.pinned (OpenSpec.ofChange fnExactLineColSpec)

/-- ITS FALSE NEIGHBOUR: 'it returns false'. Refute it at one input. -/
def fnExactLineColWrong : ChangeSpec := { name := "fnExactLineCol", fn := fun _ => fun
  | [d1, d2] => { results := [.lit (.bool false)], args := [d1, d2] }
  | _ => none }
def FnExactLineColWrongFalsely : Prop := fnExactLineColRow.holds Try.pinned (OpenSpec.ofChange fnExactLineColWrong)

/-- 'laws.FnExactSetVar': WHATEVER THE INPUT: true; the input reads as it did. -/
def fnExactSetVarSpec : ChangeSpec := { name := "fnExactSetVar", fn := fun _ => fun
  | [d1, d2, d3] => { results := [.lit (.bool true)], args := [d1, d2, d3] }
  | _ => none }
def fnExactSetVarRow : OpenClaim := { program := "ytjmlnhngemeeaaa", sum := "6006440813e94dd9f8b292012ca7fd9051a81ab261c4c04090a138f2a718feb4", func := "loop.example/g01543/laws.FnExactSetVar", spec := "fnExactSetVar", inPlace := ["slices.overlaps[loop.example/g01543/impl.Bind]"], unfollowed := true, recurses := true, apart := false }
def FnExactSetVarSaid : Prop := fnExactSetVarRow.holds Try.pinned (OpenSpec.ofChange fnExactSetVarSpec)

/-- ITS FALSE NEIGHBOUR: 'it returns false'. Refute it at one input. -/
def fnExactSetVarWrong : ChangeSpec := { name := "fnExactSetVar", fn := fun _ => fun
  | [d1, d2, d3] => { results := [.lit (.bool false)], args := [d1, d2, d3] }
  | _ => none }
def FnExactSetVarWrongFalsely : Prop := fnExactSetVarRow.holds Try.pinned (OpenSpec.ofChange fnExactSetVarWrong)

/-- 'laws.FnExactSoftened': WHATEVER THE INPUT: true; the input reads as it did. -/
def fnExactSoftenedSpec : ChangeSpec := { name := "fnExactSoftened", fn := fun _ => fun
  | [d] => { results := [.lit (.bool true)], args := [d] }
  | _ => none }
def fnExactSoftenedRow : OpenClaim := { program := "ytjmlnhngemeeaaa", sum := "6006440813e94dd9f8b292012ca7fd9051a81ab261c4c04090a138f2a718feb4", func := "loop.example/g01543/laws.FnExactSoftened", spec := "fnExactSoftened", inPlace := ["internal/bytealg.IndexByteString", "internal/bytealg.IndexString"], named := ["internal/bytealg.MaxLen"], apart := false }
def FnExactSoftenedSaid : Prop := fnExactSoftenedRow.holds Try.pinned (OpenSpec.ofChange fnExactSoftenedSpec)

/-- ITS FALSE NEIGHBOUR: 'it returns false'. Refute it at one input. -/
def fnExactSoftenedWrong : ChangeSpec := { name := "fnExactSoftened", fn := fun _ => fun
  | [d] => { results := [.lit (.bool false)], args := [d] }
  | _ => none }
def FnExactSoftenedWrongFalsely : Prop := fnExactSoftenedRow.holds Try.pinned (OpenSpec.ofChange fnExactSoftenedWrong)

/-- 'laws.FnExactUngrouped': WHATEVER THE INPUT: true; the input reads as it did. -/
def fnExactUngroupedSpec : ChangeSpec := { name := "fnExactUngrouped", fn := fun _ => fun
  | [d] => { results := [.lit (.bool true)], args := [d] }
  | _ => none }
def fnExactUngroupedRow : OpenClaim := { program := "ytjmlnhngemeeaaa", sum := "6006440813e94dd9f8b292012ca7fd9051a81ab261c4c04090a138f2a718feb4", func := "loop.example/g01543/laws.FnExactUngrouped", spec := "fnExactUngrouped", inPlace := ["internal/bytealg.IndexByteString", "internal/bytealg.IndexString"], named := ["internal/bytealg.MaxLen"], apart := false }
def FnExactUngroupedSaid : Prop := fnExactUngroupedRow.holds Try.pinned (OpenSpec.ofChange fnExactUngroupedSpec)

/-- ITS FALSE NEIGHBOUR: 'it returns false'. Refute it at one input. -/
def fnExactUngroupedWrong : ChangeSpec := { name := "fnExactUngrouped", fn := fun _ => fun
  | [d] => { results := [.lit (.bool false)], args := [d] }
  | _ => none }
def FnExactUngroupedWrongFalsely : Prop := fnExactUngroupedRow.holds Try.pinned (OpenSpec.ofChange fnExactUngroupedWrong)

/-- 'laws.FnExactDeeper': WHATEVER THE INPUT: true; the input reads as it did. -/
def fnExactDeeperSpec : ChangeSpec := { name := "fnExactDeeper", fn := fun _ => fun
  | [d1, d2] => { results := [.lit (.bool true)], args := [d1, d2] }
  | _ => none }
def fnExactDeeperRow : OpenClaim := { program := "ytjmlnhngemeeaaa", sum := "6006440813e94dd9f8b292012ca7fd9051a81ab261c4c04090a138f2a718feb4", func := "loop.example/g01543/laws.FnExactDeeper", spec := "fnExactDeeper", inPlace := ["internal/bytealg.IndexByteString", "internal/bytealg.IndexString"], recurses := true, named := ["internal/bytealg.MaxLen"], apart := false }
def FnExactDeeperSaid : Prop := fnExactDeeperRow.holds Try.pinned (OpenSpec.ofChange fnExactDeeperSpec)

/-- ITS FALSE NEIGHBOUR: 'it returns false'. Refute it at one input. -/
def fnExactDeeperWrong : ChangeSpec := { name := "fnExactDeeper", fn := fun _ => fun
  | [d1, d2] => { results := [.lit (.bool false)], args := [d1, d2] }
  | _ => none }
def FnExactDeeperWrongFalsely : Prop := fnExactDeeperRow.holds Try.pinned (OpenSpec.ofChange fnExactDeeperWrong)

/-- 'laws.FnExactJoined': WHATEVER THE INPUT: true; the input reads as it did. -/
def fnExactJoinedSpec : ChangeSpec := { name := "fnExactJoined", fn := fun _ => fun
  | [d1, d2] => { results := [.lit (.bool true)], args := [d1, d2] }
  | _ => none }
def fnExactJoinedRow : OpenClaim := { program := "ytjmlnhngemeeaaa", sum := "6006440813e94dd9f8b292012ca7fd9051a81ab261c4c04090a138f2a718feb4", func := "loop.example/g01543/laws.FnExactJoined", spec := "fnExactJoined", inPlace := ["internal/bytealg.IndexByteString", "internal/bytealg.IndexString"], recurses := true, named := ["internal/bytealg.MaxLen"], apart := false }
def FnExactJoinedSaid : Prop := fnExactJoinedRow.holds Try.pinned (OpenSpec.ofChange fnExactJoinedSpec)

/-- ITS FALSE NEIGHBOUR: 'it returns false'. Refute it at one input. -/
def fnExactJoinedWrong : ChangeSpec := { name := "fnExactJoined", fn := fun _ => fun
  | [d1, d2] => { results := [.lit (.bool false)], args := [d1, d2] }
  | _ => none }
def FnExactJoinedWrongFalsely : Prop := fnExactJoinedRow.holds Try.pinned (OpenSpec.ofChange fnExactJoinedWrong)

/- THE SECOND FORM. 'bulk': how many values and letters a reading holds, each counted each time it is reached (what is shared counts as often as it is met; a slice's spare places count too). A statement '..UptoSaid' is the law's where the arguments, and the package variables that the reading takes, are together of bulk at most 1048576: NARROWER than '..Said'. Prove '..Said' where nothing that the law and all that it calls make is longer than what came in: it says more and counts as full. Else prove '..UptoSaid'. A law counts once. -/
mutual
def uptoBulk {H : Type} : DataW H → Nat
  | .lit (.string bytes) => bytes.length + 1
  | .lit _ => 1
  | .nil => 1
  | .ptr d => uptoBulk d + 1
  | .slice elems spare => uptoBulkAll elems + uptoBulkAll spare + 1
  | .agg parts => uptoBulkAll parts + 1
  | .iface _ d => uptoBulk d + 1
  | .map entries => uptoBulkEntries entries + 1
  | .held _ => 1
def uptoBulkAll {H : Type} : List (DataW H) → Nat
  | [] => 0
  | d :: r => uptoBulk d + uptoBulkAll r
def uptoBulkEntries {H : Type} : List (Lit × DataW H) → Nat
  | [] => 0
  | x :: r => uptoBulkEntry x + uptoBulkEntries r
def uptoBulkEntry {H : Type} : Lit × DataW H → Nat
  | (.string bytes, d) => bytes.length + uptoBulk d + 1
  | (_, d) => uptoBulk d + 1
 end
def uptoSmall : (H : Type) → List (DataW H) → Bool := fun _ ds => decide (uptoBulkAll ds ≤ 1048576)
def OpenSpec.upto (s : _root_.Go.ChangeSpec) : _root_.Go.OpenSpec := { _root_.Go.OpenSpec.ofChange s with cond := some uptoSmall }

/-- 'laws.FnExactLeaves', WHERE WHAT IT READS IS OF BULK AT MOST 1048576: true; the input reads as it did. -/
def fnExactLeavesUptoRow : OpenClaim := { program := "ytjmlnhngemeeaaa", sum := "6006440813e94dd9f8b292012ca7fd9051a81ab261c4c04090a138f2a718feb4", func := "loop.example/g01543/laws.FnExactLeaves", spec := "fnExactLeaves", apart := false, narrowed := true }
def FnExactLeavesUptoSaid : Prop := fnExactLeavesUptoRow.holds Try.pinned (OpenSpec.upto fnExactLeavesSpec)

/-- 'laws.FnExactNots', WHERE WHAT IT READS IS OF BULK AT MOST 1048576: true; the input reads as it did. -/
def fnExactNotsUptoRow : OpenClaim := { program := "ytjmlnhngemeeaaa", sum := "6006440813e94dd9f8b292012ca7fd9051a81ab261c4c04090a138f2a718feb4", func := "loop.example/g01543/laws.FnExactNots", spec := "fnExactNots", apart := false, narrowed := true }
def FnExactNotsUptoSaid : Prop := fnExactNotsUptoRow.holds Try.pinned (OpenSpec.upto fnExactNotsSpec)

/-- 'laws.FnExactLineCol', WHERE WHAT IT READS IS OF BULK AT MOST 1048576: true; the input reads as it did. -/
def fnExactLineColUptoRow : OpenClaim := { program := "ytjmlnhngemeeaaa", sum := "6006440813e94dd9f8b292012ca7fd9051a81ab261c4c04090a138f2a718feb4", func := "loop.example/g01543/laws.FnExactLineCol", spec := "fnExactLineCol", inPlace := ["internal/bytealg.CountString", "internal/bytealg.IndexByteString", "internal/bytealg.IndexString"], named := ["internal/bytealg.MaxLen"], apart := false, narrowed := true }
def FnExactLineColUptoSaid : Prop := fnExactLineColUptoRow.holds Try.pinned (OpenSpec.upto fnExactLineColSpec)

/-- 'laws.FnExactSetVar', WHERE WHAT IT READS IS OF BULK AT MOST 1048576: true; the input reads as it did. -/
def fnExactSetVarUptoRow : OpenClaim := { program := "ytjmlnhngemeeaaa", sum := "6006440813e94dd9f8b292012ca7fd9051a81ab261c4c04090a138f2a718feb4", func := "loop.example/g01543/laws.FnExactSetVar", spec := "fnExactSetVar", inPlace := ["slices.overlaps[loop.example/g01543/impl.Bind]"], unfollowed := true, recurses := true, apart := false, narrowed := true }
def FnExactSetVarUptoSaid : Prop := fnExactSetVarUptoRow.holds Try.pinned (OpenSpec.upto fnExactSetVarSpec)

/-- 'laws.FnExactSoftened', WHERE WHAT IT READS IS OF BULK AT MOST 1048576: true; the input reads as it did. -/
def fnExactSoftenedUptoRow : OpenClaim := { program := "ytjmlnhngemeeaaa", sum := "6006440813e94dd9f8b292012ca7fd9051a81ab261c4c04090a138f2a718feb4", func := "loop.example/g01543/laws.FnExactSoftened", spec := "fnExactSoftened", inPlace := ["internal/bytealg.IndexByteString", "internal/bytealg.IndexString"], named := ["internal/bytealg.MaxLen"], apart := false, narrowed := true }
def FnExactSoftenedUptoSaid : Prop := fnExactSoftenedUptoRow.holds Try.pinned (OpenSpec.upto fnExactSoftenedSpec)

/-- 'laws.FnExactUngrouped', WHERE WHAT IT READS IS OF BULK AT MOST 1048576: true; the input reads as it did. -/
def fnExactUngroupedUptoRow : OpenClaim := { program := "ytjmlnhngemeeaaa", sum := "6006440813e94dd9f8b292012ca7fd9051a81ab261c4c04090a138f2a718feb4", func := "loop.example/g01543/laws.FnExactUngrouped", spec := "fnExactUngrouped", inPlace := ["internal/bytealg.IndexByteString", "internal/bytealg.IndexString"], named := ["internal/bytealg.MaxLen"], apart := false, narrowed := true }
def FnExactUngroupedUptoSaid : Prop := fnExactUngroupedUptoRow.holds Try.pinned (OpenSpec.upto fnExactUngroupedSpec)

/-- 'laws.FnExactDeeper', WHERE WHAT IT READS IS OF BULK AT MOST 1048576: true; the input reads as it did. -/
def fnExactDeeperUptoRow : OpenClaim := { program := "ytjmlnhngemeeaaa", sum := "6006440813e94dd9f8b292012ca7fd9051a81ab261c4c04090a138f2a718feb4", func := "loop.example/g01543/laws.FnExactDeeper", spec := "fnExactDeeper", inPlace := ["internal/bytealg.IndexByteString", "internal/bytealg.IndexString"], recurses := true, named := ["internal/bytealg.MaxLen"], apart := false, narrowed := true }
def FnExactDeeperUptoSaid : Prop := fnExactDeeperUptoRow.holds Try.pinned (OpenSpec.upto fnExactDeeperSpec)

/-- 'laws.FnExactJoined', WHERE WHAT IT READS IS OF BULK AT MOST 1048576: true; the input reads as it did. -/
def fnExactJoinedUptoRow : OpenClaim := { program := "ytjmlnhngemeeaaa", sum := "6006440813e94dd9f8b292012ca7fd9051a81ab261c4c04090a138f2a718feb4", func := "loop.example/g01543/laws.FnExactJoined", spec := "fnExactJoined", inPlace := ["internal/bytealg.IndexByteString", "internal/bytealg.IndexString"], recurses := true, named := ["internal/bytealg.MaxLen"], apart := false, narrowed := true }
def FnExactJoinedUptoSaid : Prop := fnExactJoinedUptoRow.holds Try.pinned (OpenSpec.upto fnExactJoinedSpec)

end Rows
end Go.Proofs.Ytjmlnhngemeeaaa
