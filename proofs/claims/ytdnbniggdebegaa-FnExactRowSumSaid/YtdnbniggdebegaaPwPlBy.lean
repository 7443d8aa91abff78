/- Rows, grouped by what stands under a key. -/
import Derived.Test.YtdnbniggdebegaaPwPlOnce
import Derived.Test.YtdnbniggdebegaaPwSo2
set_option linter.unusedSimpArgs false
set_option linter.unusedVariables false
namespace Go.Proofs.Pw
set_option linter.unusedSectionVars false
variable [Globs]
def getOk (v : T) : Prop := v.kind = 6 ∨ v.kind = 0
noncomputable instance (v : T) : Decidable (getOk v) := Classical.propDecidable _
theorem okT_zero' : okT T.zero := ⟨by simp [T.zero, formT, formL, okS_nil], by simp [T.zero, manyT, manyL]⟩
theorem fitL_in {B : Int} : ∀ {l : List T}, fitL B l → ∀ t ∈ l, t.fit B
  | _ :: _, h, t, ht => by
    rcases List.mem_cons.1 ht with rfl | ht
    · exact h.1
    · exact fitL_in h.2 t ht
def byOk (v : T) (key : ByteArray) : Prop := rowT v ∧ okS key ∧ ∀ x ∈ v.list, getOk x
noncomputable instance (v : T) (key : ByteArray) : Decidable (byOk v key) := Classical.propDecidable _
open Classical in
/-- Keys and trees, a key put in its place. -/
noncomputable def putS (key : ByteArray) (x : T) : Bool → List ByteArray → List T → List ByteArray × List T
  | done, k :: ks, t :: l =>
    let d := !done && !decide (sl k key)
    let r := putS key x (done || d) ks l
    ((if d then [key] else []) ++ (if k = key then [] else [k]) ++ r.1, (if d then [x] else []) ++ (if k = key then [] else [t]) ++ r.2)
  | done, _, _ => if done then ([], []) else ([key], [x])
theorem putS_len (key : ByteArray) (x : T) : ∀ (done : Bool) (ks : List ByteArray) (l : List T), (putS key x done ks l).1.length ≤ ks.length + (if done then 0 else 1) ∧ (putS key x done ks l).2.length ≤ l.length + (if done then 0 else 1)
  | done, k :: ks, t :: l => by
    have ih := putS_len key x (done || (!done && !decide (sl k key))) ks l
    simp only [putS]
    by_cases d : k = key
    · subst d
      have hs : ¬ sl k k := sl_irrefl k
      cases done <;> simp [hs] at ih ⊢ <;> omega
    · by_cases c : sl k key <;> cases done <;> simp [c, d] at ih ⊢ <;> omega
  | done, [], l => by cases done <;> simp [putS]
  | done, k :: ks, [] => by cases done <;> simp [putS]
theorem putS_mem (key : ByteArray) (x : T) : ∀ (done : Bool) (ks : List ByteArray) (l : List T), (∀ s ∈ (putS key x done ks l).1, s = key ∨ s ∈ ks) ∧ (∀ t ∈ (putS key x done ks l).2, t = x ∨ t ∈ l)
  | done, k :: ks, t :: l => by
    have ih := putS_mem key x (done || (!done && !decide (sl k key))) ks l
    simp only [putS]
    refine ⟨fun s hs => ?_, fun s hs => ?_⟩
    · rcases List.mem_append.1 hs with hs | hs
      · rcases List.mem_append.1 hs with hs | hs
        · split at hs <;> simp at hs; exact .inl hs
        · split at hs <;> simp at hs; exact .inr (by simp [hs])
      · rcases ih.1 s hs with h | h
        · exact .inl h
        · exact .inr (by simp [h])
    · rcases List.mem_append.1 hs with hs | hs
      · rcases List.mem_append.1 hs with hs | hs
        · split at hs <;> simp at hs; exact .inl hs
        · split at hs <;> simp at hs; exact .inr (by simp [hs])
      · rcases ih.2 s hs with h | h
        · exact .inl h
        · exact .inr (by simp [h])
  | done, [], l => by cases done <;> simp [putS]
  | done, k :: ks, [] => by cases done <;> simp [putS]
theorem putS_size (key : ByteArray) (x : T) : ∀ (done : Bool) (ks : List ByteArray) (l : List T), sizeL (putS key x done ks l).2 ≤ sizeL l + (if done then 0 else sizeT x)
  | done, k :: ks, t :: l => by
    have ih := putS_size key x (done || (!done && !decide (sl k key))) ks l
    have h3 := manyT_le t 0
    have h4 := manyT_le x 0
    simp only [putS]
    by_cases d : k = key
    · subst d
      have hs : ¬ sl k k := sl_irrefl k
      cases done <;> simp [hs, sizeL] at ih ⊢ <;> omega
    · by_cases c : sl k key <;> cases done <;> simp [c, d, sizeL] at ih ⊢ <;> omega
  | done, [], l => by
    have h := manyL_le l 0
    cases done <;> simp [putS, sizeL] <;> omega
  | done, k :: ks, [] => by cases done <;> simp [putS, sizeL]
end Go.Proofs.Pw
