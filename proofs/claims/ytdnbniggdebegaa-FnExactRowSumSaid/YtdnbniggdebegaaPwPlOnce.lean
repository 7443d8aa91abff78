/- Rows, each tree once. -/
import Derived.Test.YtdnbniggdebegaaPwPlRow
set_option linter.unusedSimpArgs false
set_option linter.unusedVariables false
namespace Go.Proofs.Pw
end Go.Proofs.Pw
