/- Rows, each tree once. -/
import Derived.Test.YtalbhhciphpbeaaPwPlRow
set_option linter.unusedSimpArgs false
set_option linter.unusedVariables false
namespace Go.Proofs.Pw
theorem sortC_of_srt {l : List T} (h : Srt cmpT l) : sortC cmpT l = l := (sortC_uniq cmpT_is h (List.Perm.refl _)).symm
end Go.Proofs.Pw
