/- Rows: each tree once; whether a tree is there. -/
import Derived.Test.YtalbhhciphpbeaaPwRwL
import Derived.Test.YtalbhhciphpbeaaPwPlOnce
import Derived.Test.YtalbhhciphpbeaaPwSame
import Derived.Test.YtalbhhciphpbeaaPwDr4
set_option linter.unusedSimpArgs false
set_option linter.unusedVariables false
set_option linter.unusedSimpArgs false
set_option maxRecDepth 20000
namespace Go.Proofs.Pw
set_option linter.unusedSectionVars false
variable [Globs]
noncomputable instance (x : T) (l : List T) : Decidable (x ∈ l) := Classical.propDecidable _
end Go.Proofs.Pw
