/- Rows in order: the stable sort of short rows; the specification's. -/
import Derived.Test.YtdnbniggdebegaaPwSo
set_option linter.unusedSimpArgs false
set_option linter.unusedVariables false
set_option linter.unusedSimpArgs false
set_option maxRecDepth 20000
namespace Go.Proofs.Pw
set_option linter.unusedSectionVars false
variable [Globs]
theorem encL_appL (a b : List T) : encL a ++ encL b = encL (a ++ b) := (encL_app a b).symm
theorem encL_one (t : T) : [t.enc] = encL [t] := by simp [encL]
theorem fitL_of {B : Int} : ∀ {l : List T}, (∀ t ∈ l, t.fit B) → fitL B l
  | [], _ => trivial
  | t :: l, h => ⟨h t (by simp), fitL_of (fun t ht => h t (by simp [ht]))⟩
end Go.Proofs.Pw
