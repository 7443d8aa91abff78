/- Drawing: numbers, items of a list, trees without parts. -/
import Derived.Test.YtdnbniggdebegaaPwD
import Derived.Test.YtdnbniggdebegaaProg
import Derived.KernelRfl
set_option linter.unusedSimpArgs false
set_option linter.unusedVariables false
set_option linter.unusedSimpArgs false
set_option maxRecDepth 20000
namespace Go.Proofs.Pw
set_option linter.unusedSectionVars false
variable [Globs]
