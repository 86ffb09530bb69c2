/-
 The laws own helpers: copying, comparing, measuring, marking.
-/
import Derived.Test.YtbpnoplcbkjiaaaGreatDoorMaHM1
namespace Go.Proofs.Tryz
open Go.Av
set_option maxRecDepth 100000
set_option linter.unusedVariables false
set_option linter.unusedSimpArgs false
def bZ (x:ak):Prop:=x.Text.length≤1048576∧x.Other.length≤1048576∧x.Kids.length≤1048576
end Go.Proofs.Tryz
