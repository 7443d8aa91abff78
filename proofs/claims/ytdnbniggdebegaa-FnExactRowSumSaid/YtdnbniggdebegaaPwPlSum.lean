/- All of a row added. -/
import Derived.Test.YtdnbniggdebegaaPwPlAdd
set_option linter.unusedSimpArgs false
set_option linter.unusedVariables false
namespace Go.Proofs.Pw
set_option linter.unusedSectionVars false
variable [Globs]
noncomputable def sumO : List T → T → Option T
  | [], s => some s
  | x :: l, s => if addOk s x then sumO l (addT s x) else none
open Classical in
noncomputable def sumT (v : T) : T := if rowT v then (sumO v.list T.zero).getD T.zero else T.zero
def sumOk (v : T) : Prop := rowT v ∧ (sumO v.list T.zero).isSome = true
noncomputable instance (v : T) : Decidable (sumOk v) := Classical.propDecidable _
theorem sumT_row {l : List T} (h : okT (.mk 5 0 ⟨#[]⟩ [] l)) : sumT (.mk 5 0 ⟨#[]⟩ [] l) = (sumO l T.zero).getD T.zero := if_pos (rowT_row.2 h)
theorem sumOk_row {l : List T} (h : okT (.mk 5 0 ⟨#[]⟩ [] l)) : sumOk (.mk 5 0 ⟨#[]⟩ [] l) ↔ (sumO l T.zero).isSome = true := ⟨fun h => h.2, fun k => ⟨rowT_row.2 h, k⟩⟩
theorem sumO_ok : ∀ {l : List T} {s t : T}, okT s → sumO l s = some t → okT t
  | [], s, t, hs, h => by simp only [sumO, Option.some.injEq] at h; subst h; exact hs
  | x :: l, s, t, _, h => by
    simp only [sumO] at h
    split at h
    · exact sumO_ok (addT_ok s x) h
    · cases h
theorem sumT_ok (v : T) : okT (sumT v) := by
  unfold sumT
  split
  · cases h : sumO v.list T.zero with
    | none => exact okT_zero'
    | some t => exact sumO_ok okT_zero' h
  · exact okT_zero'
end Go.Proofs.Pw
