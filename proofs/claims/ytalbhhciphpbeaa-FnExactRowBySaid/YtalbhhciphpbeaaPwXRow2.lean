/- Rows in order: both programs. -/
import Derived.Test.YtalbhhciphpbeaaPwXRow
set_option linter.unusedSimpArgs false
set_option linter.unusedVariables false
set_option linter.unusedSimpArgs false
set_option maxRecDepth 20000
namespace Go.Proofs.Pw
set_option linter.unusedSectionVars false
variable [Globs]
theorem toldT_okT (b : Bool) (t : T) : okT (toldT b t) := by
  unfold toldT
  split
  · rename_i h; exact h.2
  · exact okT_zero
end Go.Proofs.Pw
