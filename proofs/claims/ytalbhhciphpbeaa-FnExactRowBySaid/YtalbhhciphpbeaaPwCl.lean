/- Trees in new memory: the program's and the specification's functions. -/
import Derived.Test.YtalbhhciphpbeaaPwD
import Derived.Test.YtalbhhciphpbeaaPwOk
import Derived.Test.YtalbhhciphpbeaaPwOkI
set_option linter.unusedSimpArgs false
set_option linter.unusedVariables false
set_option linter.unusedSimpArgs false
set_option maxRecDepth 20000
namespace Go.Proofs.Pw
set_option linter.unusedSectionVars false
variable [Globs]
theorem call_clone : okCallee Go.Proofs.Try.prog 50 = true := by kernel_rfl
theorem encL_take {l : List T} {i : Nat} {t : T} (h : l[i]? = some t) : encL (l.take (i + 1)) = encL (l.take i) ++ [t.enc] := by
  rw [List.take_add_one, h]; simp [encL_app, encL]
end Go.Proofs.Pw
