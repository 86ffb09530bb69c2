/-
  Plain lemmas on the models, part 4.
-/
import Derived.Test.YtllanibkffnogaaGreatDoorInYP3
namespace Go.Proofs.Tryz
open Go.Av
set_option maxRecDepth 100000
set_option linter.unusedSimpArgs false
set_option linter.unusedVariables false


end Go.Proofs.Tryz
