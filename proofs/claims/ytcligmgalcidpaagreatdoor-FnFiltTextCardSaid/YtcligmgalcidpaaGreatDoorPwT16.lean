/- The reference's reader of trees: its small functions. -/
import Derived.Test.YtcligmgalcidpaaGreatDoorPwT15
import Derived.Test.YtcligmgalcidpaaGreatDoorPwT10
set_option linter.unusedSimpArgs false
set_option linter.unusedVariables false
set_option linter.unusedSectionVars false
set_option maxRecDepth 20000
namespace Go.Proofs.Pw
variable [Globs]
end Go.Proofs.Pw
namespace Go.Proofs.Pw
variable [Globs]
theorem w1:(#[110,117,108,108]:Array UInt8).toList=[110,117,108,108]:=rfl
theorem w2:(#[102,97,108,115,101]:Array UInt8).toList=[102,97,108,115,101]:=rfl
end Go.Proofs.Pw
