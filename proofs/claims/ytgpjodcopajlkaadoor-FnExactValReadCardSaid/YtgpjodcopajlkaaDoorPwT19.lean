/- Drawing: trees. -/
import Derived.Test.YtgpjodcopajlkaaDoorPwT18
import Derived.Test.YtgpjodcopajlkaaDoorPwT11
import Derived.Test.YtgpjodcopajlkaaDoorPwT13
import Derived.Test.YtgpjodcopajlkaaDoorPwT12
set_option linter.unusedSimpArgs false
set_option linter.unusedVariables false
set_option linter.unusedSectionVars false
set_option maxRecDepth 20000
namespace Go.Proofs.Pw
variable [Globs]
end Go.Proofs.Pw
namespace Go.Proofs.Pw
variable [Globs]
def drW (m : Int) (t : T) : Prop := t.fit 100000 /\ sizeT t <= m /\ topT 7 t
theorem drW.fit {m : Int} {t : T} (h : drW m t) : t.fit 140737488355328 := T.fit_mono (by decide) h.1
theorem drW.mono {m n : Int} (hmn : m <= n) {t : T} (h : drW m t) : drW n t := ⟨h.1, Int.le_trans h.2.1 hmn, h.2.2⟩
theorem drT.w {m : Int} {t : T} (h : drT m t) : drW m t := ⟨T.fit_mono (by decide) h.1, h.2.1, by obtain ⟨k, n, s, ks, l⟩ := t; exact ⟨Nat.le_succ_of_le h.2.2.1, Nat.le_succ_of_le h.2.2.2⟩⟩
end Go.Proofs.Pw
namespace Go.Proofs.Pw
variable [Globs]
end Go.Proofs.Pw
namespace Go.Proofs.Pw
variable [Globs]
noncomputable instance (x : T) (l : List T) : Decidable (x ∈ l) := Classical.propDecidable _
end Go.Proofs.Pw
namespace Go.Proofs.Pw
variable [Globs]
end Go.Proofs.Pw
