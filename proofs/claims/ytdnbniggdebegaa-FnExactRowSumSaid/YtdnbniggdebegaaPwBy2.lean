/- Rows put together; rows grouped by what stands under a key. -/
import Derived.Test.YtdnbniggdebegaaPwBy
import Derived.Test.YtdnbniggdebegaaPwDr4
set_option linter.unusedSimpArgs false
set_option linter.unusedVariables false
set_option linter.unusedSimpArgs false
set_option maxRecDepth 20000
namespace Go.Proofs.Pw
set_option linter.unusedSectionVars false
variable [Globs]
end Go.Proofs.Pw
