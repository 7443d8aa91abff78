/- Printed by mkx.py: the least, each once, in order: rows of any length; answers that nobody else holds. -/
import Derived.Test.YtalbhhciphpbeaaPwXTold
import Derived.Test.YtalbhhciphpbeaaPwXSo4
import Derived.Test.YtalbhhciphpbeaaPwRwL
import Derived.Test.YtalbhhciphpbeaaPwOn
import Derived.Test.YtalbhhciphpbeaaPwPlOk
set_option linter.unusedSimpArgs false
set_option linter.unusedVariables false
set_option linter.unusedSimpArgs false
set_option maxRecDepth 20000
namespace Go.Proofs.Pw
set_option linter.unusedSectionVars false
variable [Globs]
theorem len_size (l : List T) : (l.length : Int) ≤ sizeL l := by
  induction l with
  | nil => simp [sizeL]
  | cons t l ih => obtain ⟨k, n, s, ks, l'⟩ := t; have := sizeL_nn l'; simp only [sizeL, sizeT, List.length_cons]; omega
theorem row_len {v : T} (h : rowT v) : v.list.length < 100 := by
  obtain ⟨k, n, s, ks, l⟩ := v
  have h1 := okT_size h.1
  have h2 := len_size l
  simp only [sizeT] at h1
  show l.length < 100
  omega
end Go.Proofs.Pw
