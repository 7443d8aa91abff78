/- Drawing: rows; the draws of single trees and rows. -/
import Derived.Test.YtalbhhciphpbeaaPwDr3
set_option linter.unusedSimpArgs false
set_option linter.unusedVariables false
set_option linter.unusedSimpArgs false
set_option maxRecDepth 20000
namespace Go.Proofs.Pw
set_option linter.unusedSectionVars false
variable [Globs]
end Go.Proofs.Pw
