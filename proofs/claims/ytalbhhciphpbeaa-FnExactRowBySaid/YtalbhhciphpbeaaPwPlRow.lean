/- Trees that are ok: their parts, and rows of some of them. -/
import Derived.Test.YtalbhhciphpbeaaPwRwL
set_option linter.unusedSimpArgs false
set_option linter.unusedVariables false
set_option linter.unusedSectionVars false
namespace Go.Proofs.Pw
variable [Globs]
mutual
theorem formT_mono {d e : Int} (h : d ≤ e) : ∀ {t : T}, formT t d → formT t e
  | .mk k n s ks l, hf => by
    simp only [formT] at hf ⊢
    obtain ⟨h1, h2, h3, h4, h5, h6, h7, h8, h9, h10, h11, h12⟩ := hf
    exact ⟨by omega, h2, h3, h4, h5, h6, h7, h8, h9, h10, h11, formL_mono (by omega) h12⟩
theorem formL_mono {d e : Int} (h : d ≤ e) : ∀ {l : List T}, formL l d → formL l e
  | [], _ => trivial
  | _ :: _, hf => ⟨formT_mono h hf.1, formL_mono h hf.2⟩
end
mutual
theorem manyT_deep {d e : Int} (h : d ≤ e) : ∀ {t : T}, formT t d → manyT t e = manyT t d
  | .mk k n s ks l, hf => by
    simp only [formT] at hf
    simp only [manyT]
    rw [manyL_deep (d := d) (e := e) h hf.1 hf.2.2.2.2.2.2.2.2.2.2.2]
theorem manyL_deep {d e : Int} (h : d ≤ e) (h1 : 1 ≤ d) : ∀ {l : List T}, formL l (d - 1) → manyL l e = manyL l d
  | [], _ => by simp [manyL]
  | t :: l, hf => by
    simp only [manyL]
    rw [if_pos (by omega), if_pos (by omega), manyT_deep (d := d - 1) (e := e - 1) (by omega) hf.1, manyL_deep h h1 hf.2]
end
theorem formT_list {k n : Int} {s : ByteArray} {ks : List ByteArray} {l : List T} {d : Int} (h : formT (.mk k n s ks l) d) : formL l (d - 1) := by
  simp only [formT] at h
  exact h.2.2.2.2.2.2.2.2.2.2.2
theorem manyL_at {l : List T} {t : T} {d : Int} (hd : 0 < d) (h : t ∈ l) : manyT t (d - 1) ≤ manyL l d := by
  induction l with
  | nil => simp at h
  | cons x l ih =>
    have h1 := manyL_le l d
    have h2 := manyT_le x (d - 1)
    simp only [manyL]
    rw [if_pos hd]
    rcases List.mem_cons.1 h with rfl | h
    · omega
    · have := ih h; omega
theorem okT_elem {k n : Int} {s : ByteArray} {ks : List ByteArray} {l : List T} (h : okT (.mk k n s ks l)) {t : T} (ht : t ∈ l) : okT t := by
  have h1 := formL_mem.1 (formT_list h.1) t ht
  have h2 := manyL_at (d := 6) (by omega) ht
  have h3 := manyT_deep (d := 6 - 1) (e := 6) (by omega) h1
  have h4 := h.2
  simp only [manyT] at h4
  exact ⟨formT_mono (by omega) h1, by omega⟩
theorem rowT_is {v : T} (h : rowT v) : v = .mk 5 0 ⟨#[]⟩ [] v.list := by
  obtain ⟨k, n, s, ks, l⟩ := v
  obtain ⟨h1, h2⟩ := h
  have h3 := h1.1
  simp only [formT] at h3
  simp only [T.kind] at h2
  subst h2
  obtain ⟨_, h4, h5, h6, _⟩ := h3
  simp only [T.list, T.mk.injEq, true_and, and_true]
  exact ⟨by omega, by simpa using h5, by simpa using h6⟩
end Go.Proofs.Pw
