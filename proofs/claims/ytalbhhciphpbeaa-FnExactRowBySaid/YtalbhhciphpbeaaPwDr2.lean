/- Drawing: trees. -/
import Derived.Test.YtalbhhciphpbeaaPwDr1
import Derived.Test.YtalbhhciphpbeaaPwOk
set_option linter.unusedSimpArgs false
set_option linter.unusedVariables false
set_option linter.unusedSimpArgs false
set_option maxRecDepth 20000
namespace Go.Proofs.Pw
set_option linter.unusedSectionVars false
variable [Globs]
theorem foldT (k n : Int) (s : ByteArray) (ks : List ByteArray) (l : List T) : DV.agg [C.int .i64 k, C.int .i64 n, C.str s, C.row 1 (strs ks), C.row 5 (encL l)] = DV.agg (T.mk k n s ks l).enc := rfl
end Go.Proofs.Pw
