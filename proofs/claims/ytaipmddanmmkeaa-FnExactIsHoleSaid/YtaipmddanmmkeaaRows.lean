/-
  No cell of these rows narrows 'for every input' (looked for: loops, veiled, ifaces, maps, wideKeys, modest, calm, conditions, laid).
  DERIVED. THE GIVEN ROWS OF THIS SEAT. 6 by the template 'for every input the law returns true; each argument reads behind the call as it read before'; 0 by the template 'total and deterministic' (their statements: YtaipmddanmmkeaaTotals.lean).
  GIVEN WITH THE SEED: the statements are not yours to turn. If you find one false, say at which input.
  Laid BY PROGRAM, IN A SANDBOX (cutbox-rows.mjs): the forced cells as the released guide's own fill.sh prints them over the translation 70902e9c5f25e3bb… (all of the seat's roots in one cut). By AI agents, Wed Nov 11 2026. No macro, syntax, notation, axiom, sorry.
-/
import Derived.Test.YtaipmddanmmkeaaChecked
import GoSem.Claim
import GoSem.ClaimJoined
import GoSem.ClaimMapViews
import Derived.JoinedTies
import Derived.KernelRfl
namespace Go.Proofs.Ytaipmddanmmkeaa
/- THE CELL 'sum', in the pinned program and in every row, IS THE sha256 OF THE DUMP (.gsa) THAT YtaipmddanmmkeaaProg.lean LOADS. Nothing in Lean hashes anything: it is a label: what it is worth is what the hold of that sum in a sandbox is worth. -/
noncomputable def Try.pinned : Pinned := { name := "ytaipmddanmmkeaa", sum := "70902e9c5f25e3bb3c03da885e6451e0100916ac33c3f76d352346f09478eac3", checked := Try.checked }
namespace Rows
def none {H : Type} : Left H := { results := [], args := [] }

/-- 'laws.FnExactRanWord': WHATEVER THE INPUT: true; the input reads as it did. -/
def fnExactRanWordSpec : ChangeSpec := { name := "fnExactRanWord", fn := fun _ => fun
  | [d] => { results := [.lit (.bool true)], args := [d] }
  | _ => none }
def fnExactRanWordRow : OpenClaim := { program := "ytaipmddanmmkeaa", sum := "70902e9c5f25e3bb3c03da885e6451e0100916ac33c3f76d352346f09478eac3", func := "loop.example/g01543/laws.FnExactRanWord", spec := "fnExactRanWord", apart := false }
def FnExactRanWordSaid : Prop := fnExactRanWordRow.holds Try.pinned (OpenSpec.ofChange fnExactRanWordSpec)

/-- ITS FALSE NEIGHBOUR: 'it returns false'. Refute it at one input. -/
def fnExactRanWordWrong : ChangeSpec := { name := "fnExactRanWord", fn := fun _ => fun
  | [d] => { results := [.lit (.bool false)], args := [d] }
  | _ => none }
def FnExactRanWordWrongFalsely : Prop := fnExactRanWordRow.holds Try.pinned (OpenSpec.ofChange fnExactRanWordWrong)

/-- 'laws.FnExactSplice': WHATEVER THE INPUT: true; the input reads as it did. -/
def fnExactSpliceSpec : ChangeSpec := { name := "fnExactSplice", fn := fun _ => fun
  | [d1, d2, d3, d4] => { results := [.lit (.bool true)], args := [d1, d2, d3, d4] }
  | _ => none }
def fnExactSpliceRow : OpenClaim := { program := "ytaipmddanmmkeaa", sum := "70902e9c5f25e3bb3c03da885e6451e0100916ac33c3f76d352346f09478eac3", func := "loop.example/g01543/laws.FnExactSplice", spec := "fnExactSplice", apart := false }
def FnExactSpliceSaid : Prop := fnExactSpliceRow.holds Try.pinned (OpenSpec.ofChange fnExactSpliceSpec)

/-- ITS FALSE NEIGHBOUR: 'it returns false'. Refute it at one input. -/
def fnExactSpliceWrong : ChangeSpec := { name := "fnExactSplice", fn := fun _ => fun
  | [d1, d2, d3, d4] => { results := [.lit (.bool false)], args := [d1, d2, d3, d4] }
  | _ => none }
def FnExactSpliceWrongFalsely : Prop := fnExactSpliceRow.holds Try.pinned (OpenSpec.ofChange fnExactSpliceWrong)

/-- 'laws.FnExactClassOf': WHATEVER THE INPUT: true; the input reads as it did. -/
def fnExactClassOfSpec : ChangeSpec := { name := "fnExactClassOf", fn := fun _ => fun
  | [d] => { results := [.lit (.bool true)], args := [d] }
  | _ => none }
def fnExactClassOfRow : OpenClaim := { program := "ytaipmddanmmkeaa", sum := "70902e9c5f25e3bb3c03da885e6451e0100916ac33c3f76d352346f09478eac3", func := "loop.example/g01543/laws.FnExactClassOf", spec := "fnExactClassOf", apart := false }
def FnExactClassOfSaid : Prop := fnExactClassOfRow.holds Try.pinned (OpenSpec.ofChange fnExactClassOfSpec)

/-- ITS FALSE NEIGHBOUR: 'it returns false'. Refute it at one input. -/
def fnExactClassOfWrong : ChangeSpec := { name := "fnExactClassOf", fn := fun _ => fun
  | [d] => { results := [.lit (.bool false)], args := [d] }
  | _ => none }
def FnExactClassOfWrongFalsely : Prop := fnExactClassOfRow.holds Try.pinned (OpenSpec.ofChange fnExactClassOfWrong)

/-- 'laws.FnExactTokenAt': WHATEVER THE INPUT: true; the input reads as it did. -/
def fnExactTokenAtSpec : ChangeSpec := { name := "fnExactTokenAt", fn := fun _ => fun
  | [d1, d2] => { results := [.lit (.bool true)], args := [d1, d2] }
  | _ => none }
def fnExactTokenAtRow : OpenClaim := { program := "ytaipmddanmmkeaa", sum := "70902e9c5f25e3bb3c03da885e6451e0100916ac33c3f76d352346f09478eac3", func := "loop.example/g01543/laws.FnExactTokenAt", spec := "fnExactTokenAt", apart := false }
def FnExactTokenAtSaid : Prop := fnExactTokenAtRow.holds Try.pinned (OpenSpec.ofChange fnExactTokenAtSpec)

/-- ITS FALSE NEIGHBOUR: 'it returns false'. Refute it at one input. -/
def fnExactTokenAtWrong : ChangeSpec := { name := "fnExactTokenAt", fn := fun _ => fun
  | [d1, d2] => { results := [.lit (.bool false)], args := [d1, d2] }
  | _ => none }
def FnExactTokenAtWrongFalsely : Prop := fnExactTokenAtRow.holds Try.pinned (OpenSpec.ofChange fnExactTokenAtWrong)

/-- 'laws.FnExactIsHole': WHATEVER THE INPUT: true; the input reads as it did. -/
def fnExactIsHoleSpec : ChangeSpec := { name := "fnExactIsHole", fn := fun _ => fun
  | [d] => { results := [.lit (.bool true)], args := [d] }
  | _ => none }
def fnExactIsHoleRow : OpenClaim := { program := "ytaipmddanmmkeaa", sum := "70902e9c5f25e3bb3c03da885e6451e0100916ac33c3f76d352346f09478eac3", func := "loop.example/g01543/laws.FnExactIsHole", spec := "fnExactIsHole", apart := false }
def FnExactIsHoleSaid : Prop := fnExactIsHoleRow.holds Try.pinned (OpenSpec.ofChange fnExactIsHoleSpec)

/-- ITS FALSE NEIGHBOUR: 'it returns false'. Refute it at one input. -/
def fnExactIsHoleWrong : ChangeSpec := { name := "fnExactIsHole", fn := fun _ => fun
  | [d] => { results := [.lit (.bool false)], args := [d] }
  | _ => none }
def FnExactIsHoleWrongFalsely : Prop := fnExactIsHoleRow.holds Try.pinned (OpenSpec.ofChange fnExactIsHoleWrong)

/-- 'laws.FnExactKeptTokens': WHATEVER THE INPUT: true; the input reads as it did. -/
def fnExactKeptTokensSpec : ChangeSpec := { name := "fnExactKeptTokens", fn := fun _ => fun
  | [d1, d2] => { results := [.lit (.bool true)], args := [d1, d2] }
  | _ => none }
def fnExactKeptTokensRow : OpenClaim := { program := "ytaipmddanmmkeaa", sum := "70902e9c5f25e3bb3c03da885e6451e0100916ac33c3f76d352346f09478eac3", func := "loop.example/g01543/laws.FnExactKeptTokens", spec := "fnExactKeptTokens", apart := false }
def FnExactKeptTokensSaid : Prop := fnExactKeptTokensRow.holds Try.pinned (OpenSpec.ofChange fnExactKeptTokensSpec)

/-- ITS FALSE NEIGHBOUR: 'it returns false'. Refute it at one input. -/
def fnExactKeptTokensWrong : ChangeSpec := { name := "fnExactKeptTokens", fn := fun _ => fun
  | [d1, d2] => { results := [.lit (.bool false)], args := [d1, d2] }
  | _ => none }
def FnExactKeptTokensWrongFalsely : Prop := fnExactKeptTokensRow.holds Try.pinned (OpenSpec.ofChange fnExactKeptTokensWrong)

/- THE SECOND FORM. 'bulk': how many values and letters a reading holds, each counted each time it is reached (what is shared counts as often as it is met; a slice's spare places count too). A statement '..UptoSaid' is the law's where the arguments, and the package variables that the reading takes, are together of bulk at most 1048576: NARROWER than '..Said'. Prove '..Said' where nothing that the law and all that it calls make is longer than what came in: it says more and counts as full. Else prove '..UptoSaid'. A law counts once. -/
mutual
def uptoBulk {H : Type} : DataW H → Nat
  | .lit (.string bytes) => bytes.length + 1
  | .lit _ => 1
  | .nil => 1
  | .ptr d => uptoBulk d + 1
  | .slice elems spare => uptoBulkAll elems + uptoBulkAll spare + 1
  | .agg parts => uptoBulkAll parts + 1
  | .iface _ d => uptoBulk d + 1
  | .map entries => uptoBulkEntries entries + 1
  | .held _ => 1
def uptoBulkAll {H : Type} : List (DataW H) → Nat
  | [] => 0
  | d :: r => uptoBulk d + uptoBulkAll r
def uptoBulkEntries {H : Type} : List (Lit × DataW H) → Nat
  | [] => 0
  | x :: r => uptoBulkEntry x + uptoBulkEntries r
def uptoBulkEntry {H : Type} : Lit × DataW H → Nat
  | (.string bytes, d) => bytes.length + uptoBulk d + 1
  | (_, d) => uptoBulk d + 1
 end
def uptoSmall : (H : Type) → List (DataW H) → Bool := fun _ ds => decide (uptoBulkAll ds ≤ 1048576)
def OpenSpec.upto (s : _root_.Go.ChangeSpec) : _root_.Go.OpenSpec := { _root_.Go.OpenSpec.ofChange s with cond := some uptoSmall }

/-- 'laws.FnExactRanWord', WHERE WHAT IT READS IS OF BULK AT MOST 1048576: true; the input reads as it did. -/
def fnExactRanWordUptoRow : OpenClaim := { program := "ytaipmddanmmkeaa", sum := "70902e9c5f25e3bb3c03da885e6451e0100916ac33c3f76d352346f09478eac3", func := "loop.example/g01543/laws.FnExactRanWord", spec := "fnExactRanWord", apart := false, narrowed := true }
def FnExactRanWordUptoSaid : Prop := fnExactRanWordUptoRow.holds Try.pinned (OpenSpec.upto fnExactRanWordSpec)

/-- 'laws.FnExactSplice', WHERE WHAT IT READS IS OF BULK AT MOST 1048576: true; the input reads as it did. -/
def fnExactSpliceUptoRow : OpenClaim := { program := "ytaipmddanmmkeaa", sum := "70902e9c5f25e3bb3c03da885e6451e0100916ac33c3f76d352346f09478eac3", func := "loop.example/g01543/laws.FnExactSplice", spec := "fnExactSplice", apart := false, narrowed := true }
def FnExactSpliceUptoSaid : Prop := fnExactSpliceUptoRow.holds Try.pinned (OpenSpec.upto fnExactSpliceSpec)

/-- 'laws.FnExactClassOf', WHERE WHAT IT READS IS OF BULK AT MOST 1048576: true; the input reads as it did. -/
def fnExactClassOfUptoRow : OpenClaim := { program := "ytaipmddanmmkeaa", sum := "70902e9c5f25e3bb3c03da885e6451e0100916ac33c3f76d352346f09478eac3", func := "loop.example/g01543/laws.FnExactClassOf", spec := "fnExactClassOf", apart := false, narrowed := true }
def FnExactClassOfUptoSaid : Prop := fnExactClassOfUptoRow.holds Try.pinned (OpenSpec.upto fnExactClassOfSpec)

/-- 'laws.FnExactTokenAt', WHERE WHAT IT READS IS OF BULK AT MOST 1048576: true; the input reads as it did. -/
def fnExactTokenAtUptoRow : OpenClaim := { program := "ytaipmddanmmkeaa", sum := "70902e9c5f25e3bb3c03da885e6451e0100916ac33c3f76d352346f09478eac3", func := "loop.example/g01543/laws.FnExactTokenAt", spec := "fnExactTokenAt", apart := false, narrowed := true }
def FnExactTokenAtUptoSaid : Prop := fnExactTokenAtUptoRow.holds Try.pinned (OpenSpec.upto fnExactTokenAtSpec)

/-- 'laws.FnExactIsHole', WHERE WHAT IT READS IS OF BULK AT MOST 1048576: true; the input reads as it did. -/
def fnExactIsHoleUptoRow : OpenClaim := { program := "ytaipmddanmmkeaa", sum := "70902e9c5f25e3bb3c03da885e6451e0100916ac33c3f76d352346f09478eac3", func := "loop.example/g01543/laws.FnExactIsHole", spec := "fnExactIsHole", apart := false, narrowed := true }
def FnExactIsHoleUptoSaid : Prop := fnExactIsHoleUptoRow.holds Try.pinned (OpenSpec.upto fnExactIsHoleSpec)

/-- 'laws.FnExactKeptTokens', WHERE WHAT IT READS IS OF BULK AT MOST 1048576: true; the input reads as it did. -/
def fnExactKeptTokensUptoRow : OpenClaim := { program := "ytaipmddanmmkeaa", sum := "70902e9c5f25e3bb3c03da885e6451e0100916ac33c3f76d352346f09478eac3", func := "loop.example/g01543/laws.FnExactKeptTokens", spec := "fnExactKeptTokens", apart := false, narrowed := true }
def FnExactKeptTokensUptoSaid : Prop := fnExactKeptTokensUptoRow.holds Try.pinned (OpenSpec.upto fnExactKeptTokensSpec)

end Rows
end Go.Proofs.Ytaipmddanmmkeaa
