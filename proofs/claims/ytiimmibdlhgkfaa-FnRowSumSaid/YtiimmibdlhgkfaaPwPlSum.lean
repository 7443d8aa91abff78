/- All of a row added. -/
import Derived.Test.YtiimmibdlhgkfaaPwPlAdd
set_option linter.unusedSimpArgs false
set_option linter.unusedVariables false
namespace Go.Proofs.Pw
set_option linter.unusedSectionVars false
variable [Globs]
noncomputable def sumO : List T → T → Option T
  | [], s => some s
  | x :: l, s => if addOk s x then sumO l (addT s x) else none
open Classical in
noncomputable def sumT (v : T) : T := if rowT v then (sumO v.list T.zero).getD T.zero else T.zero
def sumOk (v : T) : Prop := rowT v ∧ (sumO v.list T.zero).isSome = true
noncomputable instance (v : T) : Decidable (sumOk v) := Classical.propDecidable _
theorem sumT_row {l : List T} (h : okT (.mk 5 0 ⟨#[]⟩ [] l)) : sumT (.mk 5 0 ⟨#[]⟩ [] l) = (sumO l T.zero).getD T.zero := if_pos (rowT_row.2 h)
theorem sumOk_row {l : List T} (h : okT (.mk 5 0 ⟨#[]⟩ [] l)) : sumOk (.mk 5 0 ⟨#[]⟩ [] l) ↔ (sumO l T.zero).isSome = true := ⟨fun h => h.2, fun k => ⟨rowT_row.2 h, k⟩⟩
theorem sumO_ok : ∀ {l : List T} {s t : T}, okT s → sumO l s = some t → okT t
  | [], s, t, hs, h => by simp only [sumO, Option.some.injEq] at h; subst h; exact hs
  | x :: l, s, t, _, h => by
    simp only [sumO] at h
    split at h
    · exact sumO_ok (addT_ok s x) h
    · cases h
theorem sumO_snoc : ∀ {l : List T} {s x : T}, sumO (l ++ [x]) s = (sumO l s).bind fun t => if addOk t x then some (addT t x) else none
  | [], s, x => by simp [sumO]
  | y :: l, s, x => by
    simp only [List.cons_append, sumO]
    split
    · exact sumO_snoc
    · rfl
/-- Of a row of rows it is what that row is flat. -/
theorem addT_rows {a b : List T} (h : addOk (.mk 5 0 ⟨#[]⟩ [] a) (.mk 5 0 ⟨#[]⟩ [] b)) : addT (.mk 5 0 ⟨#[]⟩ [] a) (.mk 5 0 ⟨#[]⟩ [] b) = .mk 5 0 ⟨#[]⟩ [] (a ++ b) := by
  obtain ⟨h1, h2, t, h3, h4⟩ := h
  have e : addRaw (.mk 5 0 ⟨#[]⟩ [] a) (.mk 5 0 ⟨#[]⟩ [] b) = some (.mk 5 0 ⟨#[]⟩ [] (a ++ b)) := by simp [addRaw]
  rw [e] at h3
  cases h3
  rw [(addT_some h1 h2 e).1, toldT_ok h4]
theorem addT_zero {x : T} (h : addOk T.zero x) : addT T.zero x = x := by
  obtain ⟨h1, h2, _⟩ := h
  have e : addRaw T.zero x = some x := by obtain ⟨k, n, s, ks, l⟩ := x; simp [T.zero, addRaw]
  rw [(addT_some h1 h2 e).1, toldT_ok h2]
theorem sumO_rows : ∀ {l : List T} {a : List T} {t : T}, (∀ x ∈ l, ∃ y, x = .mk 5 0 ⟨#[]⟩ [] y) → sumO l (.mk 5 0 ⟨#[]⟩ [] a) = some t → t = .mk 5 0 ⟨#[]⟩ [] (a ++ flatL l)
  | [], a, t, _, h => by simp only [sumO, Option.some.injEq] at h; subst h; simp [flatL]
  | x :: l, a, t, hl, h => by
    obtain ⟨y, rfl⟩ := hl x (by simp)
    simp only [sumO] at h
    split at h
    · rename_i hk
      rw [addT_rows hk] at h
      have := sumO_rows (fun x hx => hl x (by simp [hx])) h
      rw [this]
      simp [flatL, T.kind, T.list]
    · cases h
theorem sumO_rows0 {l : List T} {t : T} (hne : l ≠ []) (hl : ∀ x ∈ l, ∃ y, x = .mk 5 0 ⟨#[]⟩ [] y) (h : sumO l T.zero = some t) : t = .mk 5 0 ⟨#[]⟩ [] (flatL l) := by
  cases l with
  | nil => exact absurd rfl hne
  | cons x l =>
    obtain ⟨y, rfl⟩ := hl x (by simp)
    simp only [sumO] at h
    split at h
    · rename_i hk
      rw [addT_zero hk] at h
      have := sumO_rows (fun x hx => hl x (by simp [hx])) h
      rw [this]
      simp [flatL, T.kind, T.list]
    · cases h
end Go.Proofs.Pw
