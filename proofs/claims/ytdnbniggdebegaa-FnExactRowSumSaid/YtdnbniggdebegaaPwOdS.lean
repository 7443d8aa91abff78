/- The order of trees: the specification's functions. -/
import Derived.Test.YtdnbniggdebegaaPwD
import Derived.Test.YtdnbniggdebegaaProg
import Derived.KernelRfl
set_option linter.unusedSimpArgs false
set_option linter.unusedVariables false
set_option linter.unusedSimpArgs false
set_option maxRecDepth 20000
namespace Go.Proofs.Pw
set_option linter.unusedSectionVars false
variable [Globs]
end Go.Proofs.Pw
