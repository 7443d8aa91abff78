/- Rows in order: both programs. -/
import Derived.Test.YtalbhhciphpbeaaPwXRow
set_option linter.unusedSimpArgs false
set_option linter.unusedVariables false
set_option linter.unusedSimpArgs false
set_option maxRecDepth 20000
namespace Go.Proofs.Pw
set_option linter.unusedSectionVars false
variable [Globs]
theorem onceT_ok (v : T) : okT (onceT v) := by
  by_cases c : rowT v
  · obtain ⟨l, rfl⟩ : ∃ l, v = .mk 5 0 ⟨#[]⟩ [] l := ⟨_, rowT_is c⟩
    rw [onceT_row c.1]; exact once_ok c.1
  · rw [onceT_not c]; exact okT_zero
end Go.Proofs.Pw
