/- A tree that is ok is small. -/
import Derived.Test.YtalbhhciphpbeaaPwPlPut
set_option linter.unusedSimpArgs false
set_option linter.unusedVariables false
namespace Go.Proofs.Pw
mutual
theorem form_many : ∀ (t : T) (d : Int), formT t d → manyT t d = sizeT t
  | .mk k n s ks l, d, h => by
    simp only [formT] at h
    simp only [manyT, sizeT]
    rw [formL_many l d h.1 h.2.2.2.2.2.2.2.2.2.2.2]
theorem formL_many : ∀ (l : List T) (d : Int), 1 ≤ d → formL l (d - 1) → manyL l d = sizeL l
  | [], d, _, _ => by simp [manyL, sizeL]
  | t :: l, d, hd, h => by
    simp only [formL] at h
    simp only [manyL, sizeL]
    rw [if_pos (by omega), form_many t (d - 1) h.1, formL_many l d hd h.2]
end
theorem okT_size {t : T} (h : okT t) : sizeT t ≤ 60 := by rw [← form_many t 6 h.1]; exact h.2
theorem sizeL_len : ∀ l : List T, (l.length : Int) ≤ sizeL l
  | [] => by simp [sizeL]
  | t :: l => by
    have h1 := sizeL_len l
    have h2 : 1 ≤ sizeT t := by obtain ⟨k, n, s, ks, r⟩ := t; have := manyL_le r 0; simp only [sizeT]; omega
    simp only [sizeL, List.length_cons]; omega
theorem sizeT_pos (t : T) : 1 ≤ sizeT t := by obtain ⟨k, n, s, ks, r⟩ := t; have := manyL_le r 0; simp only [sizeT]; omega
theorem sizeL_nn (l : List T) : 0 ≤ sizeL l := by have := manyL_le l 0; omega
mutual
theorem form_fit : ∀ (t : T) (d : Int), formT t d → sizeT t ≤ 60 → t.fit 60
  | .mk k n s ks l, d, h, hs => by
    simp only [formT] at h
    obtain ⟨h1, h2, h3, h4, h5, h6, h7, h8, h9, h10, h11, h12⟩ := h
    simp only [sizeT] at hs
    have hl := sizeL_len l
    have h13 := h10.2
    refine ⟨by unfold i64; omega, by unfold i64; omega, by unfold lenB; omega, ⟨?_, ?_⟩, by unfold lenB; omega, formL_fit l (d - 1) h12 (by omega)⟩
    · rcases h4 with rfl | rfl
      · have := (h11 rfl).1
        unfold lenB; omega
      · simp [lenB]
    · intro x hx
      rcases h4 with rfl | rfl
      · obtain ⟨i, hi⟩ := List.getElem?_of_mem hx
        have := (okKeys_at (h11 rfl).2 hi).2
        unfold lenB; omega
      · simp at hx
theorem formL_fit : ∀ (l : List T) (d : Int), formL l d → sizeL l ≤ 59 → fitL 60 l
  | [], _, _, _ => trivial
  | t :: l, d, h, hs => by
    simp only [formL] at h
    simp only [sizeL] at hs
    have h1 := sizeT_pos t
    have h2 := sizeL_nn l
    exact ⟨form_fit t d h.1 (by omega), formL_fit l d h.2 (by omega)⟩
end
theorem okT_fit {t : T} (h : okT t) : t.fit 60 := form_fit t 6 h.1 (okT_size h)
end Go.Proofs.Pw
