/- A key's place among keys in order; a tree put there. -/
import Derived.Test.YtalbhhciphpbeaaPwPlBy
set_option linter.unusedSimpArgs false
set_option linter.unusedVariables false
namespace Go.Proofs.Pw
/-- Keys in order, each once. -/
def Asc (ks : List ByteArray) : Prop := ks.Pairwise sl
theorem Asc.tail {k : ByteArray} {ks : List ByteArray} (h : Asc (k :: ks)) : Asc ks := (List.pairwise_cons.1 h).2
theorem Asc.head {k : ByteArray} {ks : List ByteArray} (h : Asc (k :: ks)) : ∀ s ∈ ks, sl k s := (List.pairwise_cons.1 h).1
end Go.Proofs.Pw
