/- Rows, each tree once. -/
import Derived.Test.YtalbhhciphpbeaaPwPlRow
set_option linter.unusedSimpArgs false
set_option linter.unusedVariables false
namespace Go.Proofs.Pw
open Classical in
/-- Of the first i of a list: those that are not what stands before them. -/
noncomputable def oncN (l : List T) (i : Nat) : List T := (List.range i).filterMap fun j => if 0 < j ∧ l[j]? = l[j - 1]? then none else l[j]?
noncomputable def onc (l : List T) : List T := oncN l l.length
theorem oncN_new {l : List T} {i : Nat} {x : T} (hx : l[i]? = some x) (h : i = 0 ∨ l[i - 1]? ≠ some x) : oncN l (i + 1) = oncN l i ++ [x] := by
  unfold oncN
  rw [List.range_succ, List.filterMap_append]
  have : ¬ (0 < i ∧ l[i]? = l[i - 1]?) := by
    rw [hx]; rintro ⟨h1, h2⟩
    rcases h with h | h
    · omega
    · exact h h2.symm
  have e : (if 0 < i ∧ l[i]? = l[i - 1]? then none else l[i]?) = some x := by rw [if_neg this, hx]
  simp [e]
theorem oncN_old {l : List T} {i : Nat} {x : T} (hx : l[i]? = some x) (h0 : 0 < i) (h : l[i - 1]? = some x) : oncN l (i + 1) = oncN l i := by
  unfold oncN
  rw [List.range_succ, List.filterMap_append]
  have : 0 < i ∧ l[i]? = l[i - 1]? := ⟨h0, by rw [hx, h]⟩
  have e : (if 0 < i ∧ l[i]? = l[i - 1]? then none else l[i]?) = none := by rw [if_pos this]
  simp [e]
theorem oncN_len (l : List T) (i : Nat) : (oncN l i).length ≤ i := by
  have := List.length_filterMap_le (fun j => if 0 < j ∧ l[j]? = l[j - 1]? then none else l[j]?) (List.range i)
  simpa [oncN] using this
theorem oncN_ind (l : List T) {p : Nat → List T → Prop} (h0 : p 0 []) (h1 : ∀ i x, l[i]? = some x → (i = 0 ∨ l[i - 1]? ≠ some x) → p i (oncN l i) → p (i + 1) (oncN l i ++ [x]))
    (h2 : ∀ i x, l[i]? = some x → 0 < i → l[i - 1]? = some x → p i (oncN l i) → p (i + 1) (oncN l i)) : ∀ i, i ≤ l.length → p i (oncN l i)
  | 0, _ => h0
  | i + 1, h => by
    have ih := oncN_ind l h0 h1 h2 i (by omega)
    have hx : l[i]? = some l[i] := List.getElem?_eq_getElem h
    by_cases c : i = 0 ∨ l[i - 1]? ≠ some l[i]
    · rw [oncN_new hx c]; exact h1 i _ hx c ih
    · simp only [ne_eq, not_or, Classical.not_not] at c
      rw [oncN_old hx (by omega) c.2]; exact h2 i _ hx (by omega) c.2 ih
theorem take_snoc {α : Type} {l : List α} {i : Nat} {x : α} (hx : l[i]? = some x) : l.take (i + 1) = l.take i ++ [x] := by rw [List.take_add_one, hx]; rfl
theorem oncN_sub (l : List T) {i : Nat} (h : i ≤ l.length) : (oncN l i).Sublist (l.take i) := by
  refine oncN_ind l (p := fun i o => o.Sublist (l.take i)) (by simp) (fun i x hx _ ih => ?_) (fun i x hx _ _ ih => ?_) i h
  · rw [take_snoc hx]; exact List.Sublist.append ih (List.Sublist.refl _)
  · rw [take_snoc hx]; exact ih.trans (List.sublist_append_left _ _)
theorem onc_sub (l : List T) : (onc l).Sublist l := by have := oncN_sub l (Nat.le_refl _); rwa [List.take_length] at this
theorem onc_len (l : List T) : (onc l).length ≤ l.length := (onc_sub l).length_le
theorem oncN_mem (l : List T) {i : Nat} (h : i ≤ l.length) : ∀ x ∈ l.take i, x ∈ oncN l i := by
  refine oncN_ind l (p := fun i o => ∀ x ∈ l.take i, x ∈ o) (by simp) (fun i x hx _ ih y hy => ?_) (fun i x hx h0 hp ih y hy => ?_) i h
  · rw [take_snoc hx] at hy
    rcases List.mem_append.1 hy with hy | hy
    · exact List.mem_append_left _ (ih y hy)
    · exact List.mem_append_right _ hy
  · rw [take_snoc hx] at hy
    rcases List.mem_append.1 hy with hy | hy
    · exact ih y hy
    · simp only [List.mem_singleton] at hy
      subst hy
      refine ih y ?_
      obtain ⟨j, rfl⟩ : ∃ j, i = j + 1 := ⟨i - 1, by omega⟩
      rw [take_snoc (show l[j]? = some y from hp)]; simp
theorem onc_mem (l : List T) (x : T) : x ∈ onc l ↔ x ∈ l := ⟨fun h => (onc_sub l).subset h, fun h => oncN_mem l (Nat.le_refl _) x (by rwa [List.take_length])⟩
theorem srt_at {l : List T} (h : Srt cmpT l) {i : Nat} {x y : T} (hx : l[i]? = some x) (hy : y ∈ l.take i) : cmpT y x ≤ 0 := by
  have hlt := (List.getElem?_eq_some_iff.1 hx).1
  have e : l = l.take i ++ x :: l.drop (i + 1) := by
    rw [← (List.getElem?_eq_some_iff.1 hx).2, ← List.drop_eq_getElem_cons hlt, List.take_append_drop]
  rw [Srt, e, List.pairwise_append] at h
  exact h.2.2 y hy x (by simp)
theorem onc_lt {l : List T} (h : Srt cmpT l) : (onc l).Pairwise (fun a b => cmpT a b < 0) := by
  unfold onc
  refine oncN_ind l (p := fun i o => i ≤ l.length → o.Pairwise (fun a b => cmpT a b < 0)) (by simp) (fun i x hx hn ih hi => ?_) (fun i x _ _ _ ih hi => ih (by omega)) l.length (Nat.le_refl _) (Nat.le_refl _)
  rw [List.pairwise_append]
  refine ⟨ih (by omega), by simp, fun a ha b hb => ?_⟩
  simp only [List.mem_singleton] at hb
  subst hb
  have ha' := (oncN_sub l (by omega)).subset ha
  have hle := srt_at h hx ha'
  rcases Int.lt_or_eq_of_le hle with hl | he
  · exact hl
  · exfalso
    have hab : a = b := (cmpT_is.eq a b).1 he
    subst hab
    cases i with
    | zero => simp at ha'
    | succ j =>
      have hj : j < l.length := by omega
      have hy : l[j]? = some l[j] := List.getElem?_eq_getElem hj
      have h1 : cmpT l[j] a ≤ 0 := srt_at h hx (by rw [take_snoc hy]; exact List.mem_append_right _ (List.mem_singleton.2 rfl))
      have h2 : cmpT a l[j] ≤ 0 := by
        rw [take_snoc hy] at ha'
        rcases List.mem_append.1 ha' with k | k
        · exact srt_at h hy k
        · simp only [List.mem_singleton] at k; rw [k, cmpT_is.self]; omega
      have := cmpT_is.antisymm h1 h2
      rcases hn with hn | hn
      · omega
      · exact hn (by simp only [Nat.add_sub_cancel]; rw [hy, this])
theorem onc_of_lt {l : List T} (h : l.Pairwise (fun a b => cmpT a b < 0)) : onc l = l := by
  have : ∀ i, i ≤ l.length → oncN l i = l.take i := by
    refine oncN_ind l (p := fun i o => o = l.take i) (by simp) (fun i x hx _ ih => ?_) (fun i x hx h0 hp ih => ?_)
    · rw [take_snoc hx, ih]
    · exfalso
      obtain ⟨j, rfl⟩ : ∃ j, i = j + 1 := ⟨i - 1, by omega⟩
      have h1 := List.pairwise_iff_getElem.1 h j (j + 1) (List.getElem?_eq_some_iff.1 hp).1 (List.getElem?_eq_some_iff.1 hx).1 (by omega)
      have e1 : l[j]'(List.getElem?_eq_some_iff.1 hp).1 = x := (List.getElem?_eq_some_iff.1 hp).2
      rw [e1, (List.getElem?_eq_some_iff.1 hx).2, cmpT_is.self] at h1
      omega
  have := this l.length (Nat.le_refl _)
  rwa [List.take_length] at this
theorem sortC_of_srt {l : List T} (h : Srt cmpT l) : sortC cmpT l = l := (sortC_uniq cmpT_is h (List.Perm.refl _)).symm
/-- The sorted row, each tree once. -/
noncomputable def onceL (l : List T) : List T := onc (sortC cmpT l)
theorem onceL_mem (l : List T) (x : T) : x ∈ onceL l ↔ x ∈ l := by unfold onceL; rw [onc_mem]; exact (sortC_perm cmpT_is l).mem_iff
theorem onceL_len (l : List T) : (onceL l).length ≤ l.length := by have := onc_len (sortC cmpT l); rwa [(sortC_perm cmpT_is l).length_eq] at this
end Go.Proofs.Pw
