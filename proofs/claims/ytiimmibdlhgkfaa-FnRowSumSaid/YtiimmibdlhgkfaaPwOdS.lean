/- The order of trees: the specification's functions. -/
import Derived.Test.YtiimmibdlhgkfaaPwD
import Derived.Test.YtiimmibdlhgkfaaProg
import Derived.KernelRfl
set_option linter.unusedSimpArgs false
set_option linter.unusedVariables false
set_option linter.unusedSimpArgs false
set_option maxRecDepth 20000
namespace Go.Proofs.Pw
set_option linter.unusedSectionVars false
variable [Globs]
end Go.Proofs.Pw
