/-
 Plain lemmas on the models, part 8.
-/
import Derived.Test.YtbpnoplcbkjiaaaGreatDoorMaHP7
namespace Go.Proofs.Tryz
open Go.Av
set_option maxRecDepth 100000
set_option linter.unusedSimpArgs false
set_option linter.unusedVariables false
section
set_option linter.unusedSectionVars false
variable (b:List UInt8) (hb:b.length≤1048576) {N:Nat} (hN:1050000≤N)
include hb hN
end
end Go.Proofs.Tryz
