/-
  NARROWER THAN 'FOR EVERY INPUT', by the rows' own cells (each row's printed sentence says how): FnDocs: laid · FnArgs: laid · FnDeep: laid · FnLevels: laid · FnExactFaultText: laid.
  DERIVED. THE GIVEN ROWS OF THIS SEAT. 5 by the template 'for every input the law returns true; each argument reads behind the call as it read before'; 0 by the template 'total and deterministic' (their statements: YtllanibkffnogaaDoorTotals.lean).
  GIVEN WITH THE SEED: the statements are not yours to turn. If you find one false, say at which input.
  Laid BY PROGRAM, IN A SANDBOX (cutbox-rows.mjs): the forced cells as the released guide's own fill.sh prints them over the translation 55701163ac511dcd… (all of the seat's roots in one cut). By AI agents, Wed Nov 11 2026. No macro, syntax, notation, axiom, sorry.
-/
import Derived.Test.YtllanibkffnogaaDoorChecked
import GoSem.PinnedTables
import GoSem.Claim
import GoSem.ClaimJoined
import GoSem.ClaimMapViews
import Derived.JoinedTies
import Derived.KernelRfl
namespace Go.Proofs.YtllanibkffnogaaDoor
/- THE CELL 'sum', in the pinned program and in every row, IS THE sha256 OF THE DUMP (.gsa) THAT YtllanibkffnogaaDoorProg.lean LOADS. Nothing in Lean hashes anything: it is a label: what it is worth is what the hold of that sum in a sandbox is worth. -/
noncomputable def Tryd.pinned : Pinned := { name := "ytllanibkffnogaadoor", sum := "55701163ac511dcd612f9ecc86560630cee3c44649be5f3d8762ba588058e68b", checked := Tryd.checked }
namespace Rows
def none {H : Type} : Left H := { results := [], args := [] }

/- WHAT THE LISTED PACKAGE-LEVEL VARIABLES READ AS WHEN THE CALL BEGINS. Each datum BY PROGRAM (the guide's laid-datum.mjs) off the statement by which the dump's own 'gosem.cut.vars' lays the variable. In a bare row this is a premise. The card (YtllanibkffnogaaDoorCards.lean) ties it to the program's text. -/
def laid_unicode_utf8_acceptRanges {H : Type} : DataW H := .agg [.agg [.lit (.int .u8 128), .lit (.int .u8 191)], .agg [.lit (.int .u8 160), .lit (.int .u8 191)], .agg [.lit (.int .u8 128), .lit (.int .u8 159)], .agg [.lit (.int .u8 144), .lit (.int .u8 191)], .agg [.lit (.int .u8 128), .lit (.int .u8 143)], .agg [.lit (.int .u8 0), .lit (.int .u8 0)], .agg [.lit (.int .u8 0), .lit (.int .u8 0)], .agg [.lit (.int .u8 0), .lit (.int .u8 0)], .agg [.lit (.int .u8 0), .lit (.int .u8 0)], .agg [.lit (.int .u8 0), .lit (.int .u8 0)], .agg [.lit (.int .u8 0), .lit (.int .u8 0)], .agg [.lit (.int .u8 0), .lit (.int .u8 0)], .agg [.lit (.int .u8 0), .lit (.int .u8 0)], .agg [.lit (.int .u8 0), .lit (.int .u8 0)], .agg [.lit (.int .u8 0), .lit (.int .u8 0)], .agg [.lit (.int .u8 0), .lit (.int .u8 0)]]
/-- One of Go's own tables, pinned by name: the form's constant. -/
def laid_unicode_utf8_first : DataW Unit := Go.Pinned.utf8First
def laid_loop_example_g01543_impl_keywords {H : Type} : DataW H := .agg [.lit (.string [66, 69, 71, 73, 78]), .lit (.string [69, 78, 68]), .lit (.string [102, 117, 110, 99, 116, 105, 111, 110]), .lit (.string [105, 102]), .lit (.string [101, 108, 115, 101]), .lit (.string [119, 104, 105, 108, 101]), .lit (.string [102, 111, 114]), .lit (.string [100, 111]), .lit (.string [98, 114, 101, 97, 107]), .lit (.string [99, 111, 110, 116, 105, 110, 117, 101]), .lit (.string [110, 101, 120, 116]), .lit (.string [101, 120, 105, 116]), .lit (.string [114, 101, 116, 117, 114, 110]), .lit (.string [100, 101, 108, 101, 116, 101]), .lit (.string [105, 110]), .lit (.string [112, 114, 105, 110, 116]), .lit (.string [112, 114, 105, 110, 116, 102])]
def laid_loop_example_g01543_impl_signs {H : Type} : DataW H := .agg [.lit (.string [123]), .lit (.string [125]), .lit (.string [40]), .lit (.string [41]), .lit (.string [91]), .lit (.string [93]), .lit (.string [44]), .lit (.string [59]), .lit (.string [43, 61]), .lit (.string [45, 61]), .lit (.string [42, 61]), .lit (.string [47, 61]), .lit (.string [37, 61]), .lit (.string [94, 61]), .lit (.string [124, 124]), .lit (.string [38, 38]), .lit (.string [33, 126]), .lit (.string [61, 61]), .lit (.string [60, 61]), .lit (.string [62, 61]), .lit (.string [33, 61]), .lit (.string [43, 43]), .lit (.string [45, 45]), .lit (.string [62, 62]), .lit (.string [61]), .lit (.string [43]), .lit (.string [45]), .lit (.string [42]), .lit (.string [47]), .lit (.string [37]), .lit (.string [94]), .lit (.string [33]), .lit (.string [62]), .lit (.string [60]), .lit (.string [124]), .lit (.string [63]), .lit (.string [58]), .lit (.string [126]), .lit (.string [36])]
def laid_loop_example_g01543_impl_builtins {H : Type} : DataW H := .agg [.lit (.string [97, 116, 97, 110, 50]), .lit (.string [99, 108, 111, 115, 101]), .lit (.string [99, 111, 115]), .lit (.string [101, 120, 112]), .lit (.string [103, 115, 117, 98]), .lit (.string [105, 110, 100, 101, 120]), .lit (.string [105, 110, 116]), .lit (.string [108, 101, 110, 103, 116, 104]), .lit (.string [108, 111, 103]), .lit (.string [109, 97, 116, 99, 104]), .lit (.string [114, 97, 110, 100]), .lit (.string [115, 105, 110]), .lit (.string [115, 112, 108, 105, 116]), .lit (.string [115, 112, 114, 105, 110, 116, 102]), .lit (.string [115, 113, 114, 116]), .lit (.string [115, 114, 97, 110, 100]), .lit (.string [115, 117, 98]), .lit (.string [115, 117, 98, 115, 116, 114]), .lit (.string [115, 121, 115, 116, 101, 109]), .lit (.string [116, 111, 108, 111, 119, 101, 114]), .lit (.string [116, 111, 117, 112, 112, 101, 114])]
def laid_math_bits_deBruijn32tab {H : Type} : DataW H := .agg [.lit (.int .u8 0), .lit (.int .u8 1), .lit (.int .u8 28), .lit (.int .u8 2), .lit (.int .u8 29), .lit (.int .u8 14), .lit (.int .u8 24), .lit (.int .u8 3), .lit (.int .u8 30), .lit (.int .u8 22), .lit (.int .u8 20), .lit (.int .u8 15), .lit (.int .u8 25), .lit (.int .u8 17), .lit (.int .u8 4), .lit (.int .u8 8), .lit (.int .u8 31), .lit (.int .u8 27), .lit (.int .u8 13), .lit (.int .u8 23), .lit (.int .u8 21), .lit (.int .u8 19), .lit (.int .u8 16), .lit (.int .u8 7), .lit (.int .u8 26), .lit (.int .u8 12), .lit (.int .u8 18), .lit (.int .u8 6), .lit (.int .u8 11), .lit (.int .u8 5), .lit (.int .u8 10), .lit (.int .u8 9)]
def laid_math_bits_deBruijn64tab {H : Type} : DataW H := .agg [.lit (.int .u8 0), .lit (.int .u8 1), .lit (.int .u8 56), .lit (.int .u8 2), .lit (.int .u8 57), .lit (.int .u8 49), .lit (.int .u8 28), .lit (.int .u8 3), .lit (.int .u8 61), .lit (.int .u8 58), .lit (.int .u8 42), .lit (.int .u8 50), .lit (.int .u8 38), .lit (.int .u8 29), .lit (.int .u8 17), .lit (.int .u8 4), .lit (.int .u8 62), .lit (.int .u8 47), .lit (.int .u8 59), .lit (.int .u8 36), .lit (.int .u8 45), .lit (.int .u8 43), .lit (.int .u8 51), .lit (.int .u8 22), .lit (.int .u8 53), .lit (.int .u8 39), .lit (.int .u8 33), .lit (.int .u8 30), .lit (.int .u8 24), .lit (.int .u8 18), .lit (.int .u8 12), .lit (.int .u8 5), .lit (.int .u8 63), .lit (.int .u8 55), .lit (.int .u8 48), .lit (.int .u8 27), .lit (.int .u8 60), .lit (.int .u8 41), .lit (.int .u8 37), .lit (.int .u8 16), .lit (.int .u8 46), .lit (.int .u8 35), .lit (.int .u8 44), .lit (.int .u8 21), .lit (.int .u8 52), .lit (.int .u8 32), .lit (.int .u8 23), .lit (.int .u8 11), .lit (.int .u8 54), .lit (.int .u8 26), .lit (.int .u8 40), .lit (.int .u8 15), .lit (.int .u8 34), .lit (.int .u8 20), .lit (.int .u8 31), .lit (.int .u8 10), .lit (.int .u8 25), .lit (.int .u8 14), .lit (.int .u8 19), .lit (.int .u8 9), .lit (.int .u8 13), .lit (.int .u8 8), .lit (.int .u8 7), .lit (.int .u8 6)]
def laid_internal_strconv_uint64pow10 {H : Type} : DataW H := .agg [.lit (.int .u64 1), .lit (.int .u64 10), .lit (.int .u64 100), .lit (.int .u64 1000), .lit (.int .u64 10000), .lit (.int .u64 100000), .lit (.int .u64 1000000), .lit (.int .u64 10000000), .lit (.int .u64 100000000), .lit (.int .u64 1000000000), .lit (.int .u64 10000000000), .lit (.int .u64 100000000000), .lit (.int .u64 1000000000000), .lit (.int .u64 10000000000000), .lit (.int .u64 100000000000000), .lit (.int .u64 1000000000000000), .lit (.int .u64 10000000000000000), .lit (.int .u64 100000000000000000), .lit (.int .u64 1000000000000000000), .lit (.int .u64 10000000000000000000)]

/-- 'laws.FnDocs': WHATEVER THE INPUT: true; the input reads as it did. -/
def fnDocsSpec : ChangeSpec := { name := "fnDocs", fn := fun _ => fun
  | [d] => { results := [.lit (.bool true)], args := [d] }
  | _ => none }
def fnDocsRow : OpenClaim := { program := "ytllanibkffnogaadoor", sum := "55701163ac511dcd612f9ecc86560630cee3c44649be5f3d8762ba588058e68b", func := "loop.example/g01543/laws.FnDocs", spec := "fnDocs", inPlace := ["internal/bytealg.IndexByteString", "internal/bytealg.IndexString", "internal/abi.NoEscape", "internal/bytealg.MakeNoZero", "internal/bytealg.CountString"], unfollowed := true, recurses := true, named := ["internal/bytealg.MaxLen", "unicode/utf8.first", "unicode/utf8.acceptRanges"], apart := false, laid := [("unicode/utf8.acceptRanges", laid_unicode_utf8_acceptRanges), ("unicode/utf8.first", laid_unicode_utf8_first)] }
def FnDocsSaid : Prop := fnDocsRow.holds Tryd.pinned (OpenSpec.ofChange fnDocsSpec)

/-- ITS FALSE NEIGHBOUR: 'it returns false'. Refute it at one input. -/
def fnDocsWrong : ChangeSpec := { name := "fnDocs", fn := fun _ => fun
  | [d] => { results := [.lit (.bool false)], args := [d] }
  | _ => none }
def FnDocsWrongFalsely : Prop := fnDocsRow.holds Tryd.pinned (OpenSpec.ofChange fnDocsWrong)

/-- 'laws.FnArgs': WHATEVER THE INPUT: true; the input reads as it did. -/
def fnArgsSpec : ChangeSpec := { name := "fnArgs", vars := ["loop.example/g01543/impl.keywords", "loop.example/g01543/impl.builtins", "loop.example/g01543/impl.signs"], fn := fun _ => fun
  | [d, g1, g2, g3] => { results := [.lit (.bool true)], args := [d], vars := [g1, g2, g3] }
  | _ => none }
def fnArgsRow : OpenClaim := { program := "ytllanibkffnogaadoor", sum := "55701163ac511dcd612f9ecc86560630cee3c44649be5f3d8762ba588058e68b", func := "loop.example/g01543/laws.FnArgs", spec := "fnArgs", inPlace := ["internal/bytealg.IndexByteString", "internal/bytealg.IndexString"], recurses := true, named := ["loop.example/g01543/impl.keywords", "loop.example/g01543/impl.builtins", "loop.example/g01543/impl.signs", "internal/bytealg.MaxLen"], apart := false, laid := [("loop.example/g01543/impl.keywords", laid_loop_example_g01543_impl_keywords), ("loop.example/g01543/impl.signs", laid_loop_example_g01543_impl_signs), ("loop.example/g01543/impl.builtins", laid_loop_example_g01543_impl_builtins)] }
def FnArgsSaid : Prop := fnArgsRow.holds Tryd.pinned (OpenSpec.ofChange fnArgsSpec)

/-- ITS FALSE NEIGHBOUR: 'it returns false'. Refute it at one input. -/
def fnArgsWrong : ChangeSpec := { name := "fnArgs", vars := ["loop.example/g01543/impl.keywords", "loop.example/g01543/impl.builtins", "loop.example/g01543/impl.signs"], fn := fun _ => fun
  | [d, g1, g2, g3] => { results := [.lit (.bool false)], args := [d], vars := [g1, g2, g3] }
  | _ => none }
def FnArgsWrongFalsely : Prop := fnArgsRow.holds Tryd.pinned (OpenSpec.ofChange fnArgsWrong)

/-- 'laws.FnDeep': WHATEVER THE INPUT: true; the input reads as it did. -/
def fnDeepSpec : ChangeSpec := { name := "fnDeep", vars := ["loop.example/g01543/impl.keywords", "loop.example/g01543/impl.builtins", "loop.example/g01543/impl.signs"], fn := fun _ => fun
  | [d, g1, g2, g3] => { results := [.lit (.bool true)], args := [d], vars := [g1, g2, g3] }
  | _ => none }
def fnDeepRow : OpenClaim := { program := "ytllanibkffnogaadoor", sum := "55701163ac511dcd612f9ecc86560630cee3c44649be5f3d8762ba588058e68b", func := "loop.example/g01543/laws.FnDeep", spec := "fnDeep", inPlace := ["internal/bytealg.IndexByteString", "internal/bytealg.IndexString"], recurses := true, named := ["loop.example/g01543/impl.keywords", "loop.example/g01543/impl.builtins", "loop.example/g01543/impl.signs", "internal/bytealg.MaxLen"], apart := false, laid := [("loop.example/g01543/impl.keywords", laid_loop_example_g01543_impl_keywords), ("loop.example/g01543/impl.signs", laid_loop_example_g01543_impl_signs), ("loop.example/g01543/impl.builtins", laid_loop_example_g01543_impl_builtins)] }
def FnDeepSaid : Prop := fnDeepRow.holds Tryd.pinned (OpenSpec.ofChange fnDeepSpec)

/-- ITS FALSE NEIGHBOUR: 'it returns false'. Refute it at one input. -/
def fnDeepWrong : ChangeSpec := { name := "fnDeep", vars := ["loop.example/g01543/impl.keywords", "loop.example/g01543/impl.builtins", "loop.example/g01543/impl.signs"], fn := fun _ => fun
  | [d, g1, g2, g3] => { results := [.lit (.bool false)], args := [d], vars := [g1, g2, g3] }
  | _ => none }
def FnDeepWrongFalsely : Prop := fnDeepRow.holds Tryd.pinned (OpenSpec.ofChange fnDeepWrong)

/-- 'laws.FnLevels': WHATEVER THE INPUT: true; the input reads as it did. -/
def fnLevelsSpec : ChangeSpec := { name := "fnLevels", vars := ["loop.example/g01543/impl.keywords", "loop.example/g01543/impl.signs", "loop.example/g01543/impl.builtins"], fn := fun _ => fun
  | [d, g1, g2, g3] => { results := [.lit (.bool true)], args := [d], vars := [g1, g2, g3] }
  | _ => none }
def fnLevelsRow : OpenClaim := { program := "ytllanibkffnogaadoor", sum := "55701163ac511dcd612f9ecc86560630cee3c44649be5f3d8762ba588058e68b", func := "loop.example/g01543/laws.FnLevels", spec := "fnLevels", inPlace := ["internal/bytealg.IndexByteString", "internal/bytealg.IndexString"], recurses := true, named := ["loop.example/g01543/impl.keywords", "loop.example/g01543/impl.signs", "loop.example/g01543/impl.builtins", "internal/bytealg.MaxLen"], apart := false, laid := [("loop.example/g01543/impl.keywords", laid_loop_example_g01543_impl_keywords), ("loop.example/g01543/impl.signs", laid_loop_example_g01543_impl_signs), ("loop.example/g01543/impl.builtins", laid_loop_example_g01543_impl_builtins)] }
def FnLevelsSaid : Prop := fnLevelsRow.holds Tryd.pinned (OpenSpec.ofChange fnLevelsSpec)

/-- ITS FALSE NEIGHBOUR: 'it returns false'. Refute it at one input. -/
def fnLevelsWrong : ChangeSpec := { name := "fnLevels", vars := ["loop.example/g01543/impl.keywords", "loop.example/g01543/impl.signs", "loop.example/g01543/impl.builtins"], fn := fun _ => fun
  | [d, g1, g2, g3] => { results := [.lit (.bool false)], args := [d], vars := [g1, g2, g3] }
  | _ => none }
def FnLevelsWrongFalsely : Prop := fnLevelsRow.holds Tryd.pinned (OpenSpec.ofChange fnLevelsWrong)

/-- 'laws.FnExactFaultText': WHATEVER THE INPUT: true; the input reads as it did. -/
def fnExactFaultTextSpec : ChangeSpec := { name := "fnExactFaultText", fn := fun _ => fun
  | [d1, d2] => { results := [.lit (.bool true)], args := [d1, d2] }
  | _ => none }
def fnExactFaultTextRow : OpenClaim := { program := "ytllanibkffnogaadoor", sum := "55701163ac511dcd612f9ecc86560630cee3c44649be5f3d8762ba588058e68b", func := "loop.example/g01543/laws.FnExactFaultText", spec := "fnExactFaultText", inPlace := ["internal/bytealg.CountString", "internal/bytealg.IndexByteString", "internal/bytealg.IndexString"], named := ["internal/bytealg.MaxLen", "internal/strconv.uint64pow10", "math/bits.deBruijn32tab", "math/bits.deBruijn64tab"], apart := false, laid := [("math/bits.deBruijn32tab", laid_math_bits_deBruijn32tab), ("math/bits.deBruijn64tab", laid_math_bits_deBruijn64tab), ("internal/strconv.uint64pow10", laid_internal_strconv_uint64pow10)] }
def FnExactFaultTextSaid : Prop := fnExactFaultTextRow.holds Tryd.pinned (OpenSpec.ofChange fnExactFaultTextSpec)

/-- ITS FALSE NEIGHBOUR: 'it returns false'. Refute it at one input. -/
def fnExactFaultTextWrong : ChangeSpec := { name := "fnExactFaultText", fn := fun _ => fun
  | [d1, d2] => { results := [.lit (.bool false)], args := [d1, d2] }
  | _ => none }
def FnExactFaultTextWrongFalsely : Prop := fnExactFaultTextRow.holds Tryd.pinned (OpenSpec.ofChange fnExactFaultTextWrong)

/- THE SECOND FORM. 'bulk': how many values and letters a reading holds, each counted each time it is reached (what is shared counts as often as it is met; a slice's spare places count too). A statement '..UptoSaid' is the law's where the arguments, and the package variables that the reading takes, are together of bulk at most 1048576: NARROWER than '..Said'. Prove '..Said' where nothing that the law and all that it calls make is longer than what came in: it says more and counts as full. Else prove '..UptoSaid'. A law counts once. -/
mutual
def uptoBulk {H : Type} : DataW H → Nat
  | .lit (.string bytes) => bytes.length + 1
  | .lit _ => 1
  | .nil => 1
  | .ptr d => uptoBulk d + 1
  | .slice elems spare => uptoBulkAll elems + uptoBulkAll spare + 1
  | .agg parts => uptoBulkAll parts + 1
  | .iface _ d => uptoBulk d + 1
  | .map entries => uptoBulkEntries entries + 1
  | .held _ => 1
def uptoBulkAll {H : Type} : List (DataW H) → Nat
  | [] => 0
  | d :: r => uptoBulk d + uptoBulkAll r
def uptoBulkEntries {H : Type} : List (Lit × DataW H) → Nat
  | [] => 0
  | x :: r => uptoBulkEntry x + uptoBulkEntries r
def uptoBulkEntry {H : Type} : Lit × DataW H → Nat
  | (.string bytes, d) => bytes.length + uptoBulk d + 1
  | (_, d) => uptoBulk d + 1
 end
def uptoSmall : (H : Type) → List (DataW H) → Bool := fun _ ds => decide (uptoBulkAll ds ≤ 1048576)
def OpenSpec.upto (s : _root_.Go.ChangeSpec) : _root_.Go.OpenSpec := { _root_.Go.OpenSpec.ofChange s with cond := some uptoSmall }

/-- 'laws.FnDocs', WHERE WHAT IT READS IS OF BULK AT MOST 1048576: true; the input reads as it did. -/
def fnDocsUptoRow : OpenClaim := { program := "ytllanibkffnogaadoor", sum := "55701163ac511dcd612f9ecc86560630cee3c44649be5f3d8762ba588058e68b", func := "loop.example/g01543/laws.FnDocs", spec := "fnDocs", inPlace := ["internal/bytealg.IndexByteString", "internal/bytealg.IndexString", "internal/abi.NoEscape", "internal/bytealg.MakeNoZero", "internal/bytealg.CountString"], unfollowed := true, recurses := true, named := ["internal/bytealg.MaxLen", "unicode/utf8.first", "unicode/utf8.acceptRanges"], apart := false, laid := [("unicode/utf8.acceptRanges", laid_unicode_utf8_acceptRanges), ("unicode/utf8.first", laid_unicode_utf8_first)], narrowed := true }
def FnDocsUptoSaid : Prop := fnDocsUptoRow.holds Tryd.pinned (OpenSpec.upto fnDocsSpec)

/-- 'laws.FnArgs', WHERE WHAT IT READS IS OF BULK AT MOST 1048576: true; the input reads as it did. -/
def fnArgsUptoRow : OpenClaim := { program := "ytllanibkffnogaadoor", sum := "55701163ac511dcd612f9ecc86560630cee3c44649be5f3d8762ba588058e68b", func := "loop.example/g01543/laws.FnArgs", spec := "fnArgs", inPlace := ["internal/bytealg.IndexByteString", "internal/bytealg.IndexString"], recurses := true, named := ["loop.example/g01543/impl.keywords", "loop.example/g01543/impl.builtins", "loop.example/g01543/impl.signs", "internal/bytealg.MaxLen"], apart := false, laid := [("loop.example/g01543/impl.keywords", laid_loop_example_g01543_impl_keywords), ("loop.example/g01543/impl.signs", laid_loop_example_g01543_impl_signs), ("loop.example/g01543/impl.builtins", laid_loop_example_g01543_impl_builtins)], narrowed := true }
def FnArgsUptoSaid : Prop := fnArgsUptoRow.holds Tryd.pinned (OpenSpec.upto fnArgsSpec)

/-- 'laws.FnDeep', WHERE WHAT IT READS IS OF BULK AT MOST 1048576: true; the input reads as it did. -/
def fnDeepUptoRow : OpenClaim := { program := "ytllanibkffnogaadoor", sum := "55701163ac511dcd612f9ecc86560630cee3c44649be5f3d8762ba588058e68b", func := "loop.example/g01543/laws.FnDeep", spec := "fnDeep", inPlace := ["internal/bytealg.IndexByteString", "internal/bytealg.IndexString"], recurses := true, named := ["loop.example/g01543/impl.keywords", "loop.example/g01543/impl.builtins", "loop.example/g01543/impl.signs", "internal/bytealg.MaxLen"], apart := false, laid := [("loop.example/g01543/impl.keywords", laid_loop_example_g01543_impl_keywords), ("loop.example/g01543/impl.signs", laid_loop_example_g01543_impl_signs), ("loop.example/g01543/impl.builtins", laid_loop_example_g01543_impl_builtins)], narrowed := true }
def FnDeepUptoSaid : Prop := fnDeepUptoRow.holds Tryd.pinned (OpenSpec.upto fnDeepSpec)

/-- 'laws.FnLevels', WHERE WHAT IT READS IS OF BULK AT MOST 1048576: true; the input reads as it did. -/
def fnLevelsUptoRow : OpenClaim := { program := "ytllanibkffnogaadoor", sum := "55701163ac511dcd612f9ecc86560630cee3c44649be5f3d8762ba588058e68b", func := "loop.example/g01543/laws.FnLevels", spec := "fnLevels", inPlace := ["internal/bytealg.IndexByteString", "internal/bytealg.IndexString"], recurses := true, named := ["loop.example/g01543/impl.keywords", "loop.example/g01543/impl.signs", "loop.example/g01543/impl.builtins", "internal/bytealg.MaxLen"], apart := false, laid := [("loop.example/g01543/impl.keywords", laid_loop_example_g01543_impl_keywords), ("loop.example/g01543/impl.signs", laid_loop_example_g01543_impl_signs), ("loop.example/g01543/impl.builtins", laid_loop_example_g01543_impl_builtins)], narrowed := true }
def FnLevelsUptoSaid : Prop := fnLevelsUptoRow.holds Tryd.pinned (OpenSpec.upto fnLevelsSpec)

/-- 'laws.FnExactFaultText', WHERE WHAT IT READS IS OF BULK AT MOST 1048576: true; the input reads as it did. -/
def fnExactFaultTextUptoRow : OpenClaim := { program := "ytllanibkffnogaadoor", sum := "55701163ac511dcd612f9ecc86560630cee3c44649be5f3d8762ba588058e68b", func := "loop.example/g01543/laws.FnExactFaultText", spec := "fnExactFaultText", inPlace := ["internal/bytealg.CountString", "internal/bytealg.IndexByteString", "internal/bytealg.IndexString"], named := ["internal/bytealg.MaxLen", "internal/strconv.uint64pow10", "math/bits.deBruijn32tab", "math/bits.deBruijn64tab"], apart := false, laid := [("math/bits.deBruijn32tab", laid_math_bits_deBruijn32tab), ("math/bits.deBruijn64tab", laid_math_bits_deBruijn64tab), ("internal/strconv.uint64pow10", laid_internal_strconv_uint64pow10)], narrowed := true }
def FnExactFaultTextUptoSaid : Prop := fnExactFaultTextUptoRow.holds Tryd.pinned (OpenSpec.upto fnExactFaultTextSpec)

end Rows
end Go.Proofs.YtllanibkffnogaaDoor
