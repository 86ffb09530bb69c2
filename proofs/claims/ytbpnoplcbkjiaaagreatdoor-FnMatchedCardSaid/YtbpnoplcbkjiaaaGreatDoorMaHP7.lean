/-
 Plain lemmas on the models, part 7.
-/
import Derived.Test.YtbpnoplcbkjiaaaGreatDoorMaHP6
namespace Go.Proofs.Tryz
open Go.Av
set_option maxRecDepth 100000
set_option linter.unusedSimpArgs false
set_option linter.unusedVariables false
end Go.Proofs.Tryz
