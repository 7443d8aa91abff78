/- The order of trees: the specification's functions. -/
import Derived.Test.YtiimmibdlhgkfaaPwD
import Derived.Test.YtiimmibdlhgkfaaProg
import Derived.KernelRfl
set_option linter.unusedSimpArgs false
set_option linter.unusedVariables false
set_option linter.unusedSimpArgs false
set_option maxRecDepth 20000
namespace Go.Proofs.Pw
set_option linter.unusedSectionVars false
variable [Globs]
theorem cmpL_drop {α : Type} {f : α → α → Int} {a b : List α} {i : Nat} {x y : α} (hx : a[i]? = some x) (hy : b[i]? = some y) : cmpL f (a.drop i) (b.drop i) = thenI (f x y) (cmpL f (a.drop (i + 1)) (b.drop (i + 1))) := by
  obtain ⟨h1, rfl⟩ := List.getElem?_eq_some_iff.1 hx
  obtain ⟨h2, rfl⟩ := List.getElem?_eq_some_iff.1 hy
  rw [List.drop_eq_getElem_cons h1, List.drop_eq_getElem_cons h2]
  rfl
theorem cmpTL_eq : ∀ (a b : List T), cmpTL a b = cmpL cmpT a b
  | [], [] => rfl
  | [], _ :: _ => rfl
  | _ :: _, [] => rfl
  | a :: x, b :: y => by simp only [cmpTL, cmpL, cmpTL_eq x y]
end Go.Proofs.Pw
