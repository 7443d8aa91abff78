/- Parts under a key; rows grouped by them; rows put together. -/
import Derived.Test.YtdnbniggdebegaaPwOn
import Derived.Test.YtdnbniggdebegaaPwPlBy
import Derived.Test.YtdnbniggdebegaaPwOkI
set_option linter.unusedSimpArgs false
set_option linter.unusedVariables false
set_option linter.unusedSimpArgs false
set_option maxRecDepth 20000
namespace Go.Proofs.Pw
set_option linter.unusedSectionVars false
variable [Globs]
end Go.Proofs.Pw
