/- Rows: each tree once; whether a tree is there. -/
import Derived.Test.YtdnbniggdebegaaPwRwL
import Derived.Test.YtdnbniggdebegaaPwPlOnce
import Derived.Test.YtdnbniggdebegaaPwSame
import Derived.Test.YtdnbniggdebegaaPwDr4
set_option linter.unusedSimpArgs false
set_option linter.unusedVariables false
set_option linter.unusedSimpArgs false
set_option maxRecDepth 20000
namespace Go.Proofs.Pw
set_option linter.unusedSectionVars false
variable [Globs]
noncomputable instance (x : T) (l : List T) : Decidable (x ∈ l) := Classical.propDecidable _
theorem rowT_fit {B : Int} (h0 : 0 ≤ B) {l : List T} (h1 : lenB B l.length) (h2 : fitL B l) : (T.mk 5 0 ⟨#[]⟩ [] l).fit B :=
  ⟨by unfold i64; omega, by unfold i64; omega, by unfold lenB; exact h0, ⟨by unfold lenB; exact h0, by simp⟩, h1, h2⟩
end Go.Proofs.Pw
