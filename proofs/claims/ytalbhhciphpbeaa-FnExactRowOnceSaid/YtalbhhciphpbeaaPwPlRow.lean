/- Trees that are ok: their parts, and rows of some of them. -/
import Derived.Test.YtalbhhciphpbeaaPwRwL
set_option linter.unusedSimpArgs false
set_option linter.unusedVariables false
set_option linter.unusedSectionVars false
namespace Go.Proofs.Pw
variable [Globs]
mutual
theorem formT_mono {d e : Int} (h : d ≤ e) : ∀ {t : T}, formT t d → formT t e
  | .mk k n s ks l, hf => by
    simp only [formT] at hf ⊢
    obtain ⟨h1, h2, h3, h4, h5, h6, h7, h8, h9, h10, h11, h12⟩ := hf
    exact ⟨by omega, h2, h3, h4, h5, h6, h7, h8, h9, h10, h11, formL_mono (by omega) h12⟩
theorem formL_mono {d e : Int} (h : d ≤ e) : ∀ {l : List T}, formL l d → formL l e
  | [], _ => trivial
  | _ :: _, hf => ⟨formT_mono h hf.1, formL_mono h hf.2⟩
end
mutual
theorem manyT_deep {d e : Int} (h : d ≤ e) : ∀ {t : T}, formT t d → manyT t e = manyT t d
  | .mk k n s ks l, hf => by
    simp only [formT] at hf
    simp only [manyT]
    rw [manyL_deep (d := d) (e := e) h hf.1 hf.2.2.2.2.2.2.2.2.2.2.2]
theorem manyL_deep {d e : Int} (h : d ≤ e) (h1 : 1 ≤ d) : ∀ {l : List T}, formL l (d - 1) → manyL l e = manyL l d
  | [], _ => by simp [manyL]
  | t :: l, hf => by
    simp only [manyL]
    rw [if_pos (by omega), if_pos (by omega), manyT_deep (d := d - 1) (e := e - 1) (by omega) hf.1, manyL_deep h h1 hf.2]
end
theorem formT_list {k n : Int} {s : ByteArray} {ks : List ByteArray} {l : List T} {d : Int} (h : formT (.mk k n s ks l) d) : formL l (d - 1) := by
  simp only [formT] at h
  exact h.2.2.2.2.2.2.2.2.2.2.2
theorem manyL_neg {l : List T} {d : Int} (h : ¬ 0 < d) : manyL l d = 0 := by
  cases l with
  | nil => rfl
  | cons x l => simp only [manyL]; rw [if_neg h]
theorem manyL_sub {a b : List T} (h : a.Sublist b) (d : Int) : manyL a d ≤ manyL b d := by
  induction h with
  | slnil => exact Int.le_refl _
  | cons x _ ih =>
    have := manyT_le x (d - 1)
    simp only [manyL]
    split
    · omega
    · rename_i h; rw [manyL_neg h]; exact Int.le_refl _
  | cons_cons x _ ih =>
    simp only [manyL]
    split <;> omega
theorem manyL_perm {a b : List T} (h : a.Perm b) (d : Int) : manyL a d = manyL b d := by
  induction h with
  | nil => rfl
  | cons x _ ih => simp only [manyL, ih]
  | swap x y l => simp only [manyL]; split <;> omega
  | trans _ _ ih1 ih2 => rw [ih1, ih2]
theorem rowT_is {v : T} (h : rowT v) : v = .mk 5 0 ⟨#[]⟩ [] v.list := by
  obtain ⟨k, n, s, ks, l⟩ := v
  obtain ⟨h1, h2⟩ := h
  have h3 := h1.1
  simp only [formT] at h3
  simp only [T.kind] at h2
  subst h2
  obtain ⟨_, h4, h5, h6, _⟩ := h3
  simp only [T.list, T.mk.injEq, true_and, and_true]
  exact ⟨by omega, by simpa using h5, by simpa using h6⟩
theorem okT_row {l : List T} : okT (.mk 5 0 ⟨#[]⟩ [] l) ↔ (∀ t ∈ l, formT t 5) ∧ manyL l 6 ≤ 59 := by
  constructor
  · intro h
    have h1 := formL_mem.1 (formT_list h.1)
    have h2 := h.2
    simp only [manyT] at h2
    exact ⟨fun t ht => by simpa using h1 t ht, by omega⟩
  · rintro ⟨h1, h2⟩
    refine ⟨?_, by simp only [manyT]; omega⟩
    simp only [formT]
    exact ⟨by omega, .inr trivial, .inr trivial, .inr trivial, .inl (by omega), by omega, by omega, by omega, by omega, okS_nil, by omega, formL_mem.2 (fun t ht => by simpa using h1 t ht)⟩
theorem okT_row_sub {a b : List T} (h : okT (.mk 5 0 ⟨#[]⟩ [] b)) (hs : a.Sublist b) : okT (.mk 5 0 ⟨#[]⟩ [] a) := by
  rw [okT_row] at h ⊢
  exact ⟨fun t ht => h.1 t (hs.subset ht), Int.le_trans (manyL_sub hs 6) h.2⟩
theorem okT_row_perm {a b : List T} (h : okT (.mk 5 0 ⟨#[]⟩ [] b)) (hs : a.Perm b) : okT (.mk 5 0 ⟨#[]⟩ [] a) := by
  rw [okT_row] at h ⊢
  exact ⟨fun t ht => h.1 t (hs.mem_iff.1 ht), by rw [manyL_perm hs]; exact h.2⟩
theorem rowT_row {l : List T} : rowT (.mk 5 0 ⟨#[]⟩ [] l) ↔ okT (.mk 5 0 ⟨#[]⟩ [] l) := ⟨fun h => h.1, fun h => ⟨h, rfl⟩⟩
theorem toldT_ok {t : T} (h : okT t) : toldT true t = t := by unfold toldT; rw [if_pos ⟨rfl, h⟩]
end Go.Proofs.Pw
