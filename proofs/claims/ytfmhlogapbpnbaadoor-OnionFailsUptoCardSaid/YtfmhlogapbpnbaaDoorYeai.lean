/-
  KECCAK, PART 10: the rounds' constants.
-/
import Derived.Test.YtfmhlogapbpnbaaDoorYeah
set_option linter.unusedVariables false
set_option linter.unusedSimpArgs false
set_option linter.unusedSectionVars false

namespace Go.Proofs.Vm
set_option maxRecDepth 100000
open Go.Vm
noncomputable section
end
end Go.Proofs.Vm
