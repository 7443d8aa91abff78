/- Rows that are made of sorted pieces. -/
import Derived.Test.YtalbhhciphpbeaaPwPlSort
set_option linter.unusedSimpArgs false
set_option linter.unusedVariables false
namespace Go.Proofs.Pw
inductive Ck (bs : Nat) : List T → Prop
  | last {l : List T} (h : l.length ≤ bs) (hs : Srt cmpT l) : Ck bs l
  | cons {c r : List T} (h : c.length = bs) (hs : Srt cmpT c) (hr : Ck bs r) : Ck bs (c ++ r)
inductive FC (bs : Nat) : List T → Prop
  | nil : FC bs []
  | snoc {p c : List T} (hp : FC bs p) (h : c.length = bs) (hs : Srt cmpT c) : FC bs (p ++ c)
theorem FC.app {bs : Nat} {p : List T} (h : FC bs p) : ∀ {s : List T}, Ck bs s → Ck bs (p ++ s) := by
  induction h with
  | nil => intro s hs; exact hs
  | snoc _ h1 h2 ih => intro s hs; rw [List.append_assoc]; exact ih (.cons h1 h2 hs)
theorem Ck.short {bs : Nat} {l : List T} (h : Ck bs l) (hl : l.length ≤ bs) : Srt cmpT l := by
  cases h with
  | last _ hs => exact hs
  | @cons c r h hs hr =>
    have : r = [] := List.eq_nil_of_length_eq_zero (by simp at hl; omega)
    subst this; simpa using hs
theorem Ck.split {bs : Nat} {l : List T} (h : Ck bs l) (hl : bs ≤ l.length) : ∃ c r, l = c ++ r ∧ c.length = bs ∧ Srt cmpT c ∧ Ck bs r := by
  cases h with
  | last h hs => exact ⟨l, [], by simp, by omega, hs, .last (by simp) List.Pairwise.nil⟩
  | @cons c r h hs hr => exact ⟨c, r, rfl, h, hs, hr⟩
end Go.Proofs.Pw
