/- Rows turned round. -/
import Derived.Test.YtdnbniggdebegaaPwOn
set_option linter.unusedSimpArgs false
set_option linter.unusedVariables false
set_option linter.unusedSimpArgs false
set_option maxRecDepth 20000
namespace Go.Proofs.Pw
set_option linter.unusedSectionVars false
variable [Globs]
theorem getD_some {l : List T} {k : Nat} (hk : k < l.length) : l[k]? = some (l.getD k T.zero) := by simp [List.getD_eq_getElem?_getD, hk]
end Go.Proofs.Pw
