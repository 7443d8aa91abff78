/- The stable sort's parts, told of lists: what is swapped, what is turned about, what is merged. -/
import Derived.Test.YtalbhhciphpbeaaPwD
import Derived.Test.YtalbhhciphpbeaaPwPlOnce
set_option linter.unusedSimpArgs false
set_option linter.unusedVariables false
namespace Go.Proofs.Pw
def swp {α : Type} (l : List α) (i j : Nat) : List α := match l[i]?, l[j]? with
  | some x, some y => (l.set i y).set j x
  | _, _ => l
def swpSeg {α : Type} (l : List α) (a b : Nat) : Nat → List α
  | 0 => l
  | n + 1 => swp (swpSeg l a b n) (a + n) (b + n)
def rotSeg {α : Type} (l : List α) (a m b : Nat) : List α := l.take a ++ (l.drop m).take (b - m) ++ (l.drop a).take (m - a) ++ l.drop b
noncomputable def srtSeg (l : List T) (a b : Nat) : List T := l.take a ++ sortC cmpT ((l.drop a).take (b - a)) ++ l.drop b
theorem swp_len {α : Type} (l : List α) (i j : Nat) : (swp l i j).length = l.length := by
  unfold swp; split <;> simp
theorem swpSeg_len {α : Type} (l : List α) (a b : Nat) : ∀ n, (swpSeg l a b n).length = l.length
  | 0 => rfl
  | n + 1 => by rw [swpSeg, swp_len, swpSeg_len l a b n]
theorem split3 {α : Type} {l : List α} {a b : Nat} (h1 : a ≤ b) (h2 : b ≤ l.length) : ∃ P M Q, l = P ++ M ++ Q ∧ P.length = a ∧ P.length + M.length = b :=
  ⟨l.take a, (l.drop a).take (b - a), l.drop b, by
    have : l.drop b = (l.drop a).drop (b - a) := by rw [List.drop_drop]; congr 1; omega
    rw [this, List.append_assoc, List.take_append_drop, List.take_append_drop], by simp; omega, by simp; omega⟩
theorem split_at {α : Type} {l : List α} {a : Nat} (h : a ≤ l.length) : ∃ P Q, l = P ++ Q ∧ P.length = a := ⟨l.take a, l.drop a, (List.take_append_drop a l).symm, by simp; omega⟩
theorem swp_at {α : Type} {A B C : List α} {x y : α} {i j : Nat} (hi : A.length = i) (hj : A.length + 1 + B.length = j) : swp (A ++ x :: B ++ y :: C) i j = A ++ y :: B ++ x :: C := by
  subst hi hj
  have e1 : (A ++ x :: B ++ y :: C)[A.length]? = some x := by simp
  have e2 : (A ++ x :: B ++ y :: C)[A.length + 1 + B.length]? = some y := by
    rw [List.getElem?_append_right (by simp; omega)]
    simp
    rw [show A.length + 1 + B.length - (A.length + (B.length + 1)) = 0 by omega]; rfl
  unfold swp
  rw [e1, e2]
  simp only
  apply List.ext_getElem?
  intro k
  simp only [List.getElem?_set, List.append_assoc, List.cons_append, List.getElem?_append, List.getElem?_cons, List.length_append, List.length_cons, List.length_set]
  grind
theorem snoc_of {α : Type} {X : List α} {n : Nat} (h : X.length = n + 1) : ∃ X' x, X = X' ++ [x] ∧ X'.length = n :=
  ⟨X.dropLast, X.getLast (by intro e; rw [e] at h; simp at h), (List.dropLast_concat_getLast _).symm, by simp; omega⟩
theorem swpSeg_at {α : Type} {A : List α} {a b : Nat} (ha : A.length = a) : ∀ {n : Nat} {X Y B C : List α}, X.length = n → Y.length = n → A.length + n + B.length = b → swpSeg (A ++ X ++ B ++ Y ++ C) a b n = A ++ Y ++ B ++ X ++ C := by
  intro n
  induction n with
  | zero =>
    intro X Y B C hX hY hb
    have := List.eq_nil_of_length_eq_zero hX; subst this
    have := List.eq_nil_of_length_eq_zero hY; subst this
    rfl
  | succ n ih =>
    intro X Y B C hX hY hb
    obtain ⟨X, x, rfl, hX1⟩ := snoc_of hX
    obtain ⟨Y, y, rfl, hY1⟩ := snoc_of hY
    have e := ih (X := X) (Y := Y) (B := x :: B) (C := y :: C) hX1 hY1 (by simp; omega)
    have e2 : A ++ (X ++ [x]) ++ B ++ (Y ++ [y]) ++ C = A ++ X ++ (x :: B) ++ Y ++ (y :: C) := by simp
    rw [swpSeg, e2, e]
    have e3 := swp_at (A := A ++ Y) (B := B ++ X) (C := C) (x := x) (y := y) (i := a + n) (j := b + n) (by simp; omega) (by simp; omega)
    have e4 : A ++ Y ++ x :: B ++ X ++ y :: C = A ++ Y ++ x :: (B ++ X) ++ y :: C := by simp
    rw [e4, e3]; simp
theorem rotSeg_at {α : Type} {A X Y C : List α} {a m b : Nat} (h1 : A.length = a) (h2 : A.length + X.length = m) (h3 : A.length + X.length + Y.length = b) : rotSeg (A ++ X ++ Y ++ C) a m b = A ++ Y ++ X ++ C := by
  subst h1 h2 h3
  have e1 : (A ++ X ++ Y ++ C).take A.length = A := by simp
  have e2 : (A ++ X ++ Y ++ C).drop (A.length + X.length) = Y ++ C := by
    rw [show A ++ X ++ Y ++ C = (A ++ X) ++ (Y ++ C) by simp, show A.length + X.length = (A ++ X).length by simp, List.drop_left]
  have e3 : (A ++ X ++ Y ++ C).drop A.length = X ++ Y ++ C := by simp
  have e4 : (A ++ X ++ Y ++ C).drop (A.length + X.length + Y.length) = C := by
    rw [show A ++ X ++ Y ++ C = (A ++ X ++ Y) ++ C by simp, show A.length + X.length + Y.length = (A ++ X ++ Y).length by simp; omega, List.drop_left]
  have e5 : A.length + X.length + Y.length - (A.length + X.length) = Y.length := by omega
  have e6 : A.length + X.length - A.length = X.length := by omega
  simp only [rotSeg, e1, e2, e3, e4, e5, e6]
  simp
theorem srtSeg_at {A X C : List T} {a b : Nat} (h1 : A.length = a) (h3 : A.length + X.length = b) : srtSeg (A ++ X ++ C) a b = A ++ sortC cmpT X ++ C := by
  subst h1 h3
  simp [srtSeg, List.take_append, List.drop_append]
theorem srt_get {l : List T} (h : Srt cmpT l) {i j : Nat} {x y : T} (hi : l[i]? = some x) (hj : l[j]? = some y) (hij : i ≤ j) : cmpT x y ≤ 0 := by
  obtain ⟨h1, rfl⟩ := List.getElem?_eq_some_iff.1 hi
  obtain ⟨h2, rfl⟩ := List.getElem?_eq_some_iff.1 hj
  by_cases e : i = j
  · subst e; rw [cmpT_is.self]; exact Int.le_refl _
  · exact List.pairwise_iff_getElem.1 h i j h1 h2 (by omega)
theorem srt_app {a b : List T} (ha : Srt cmpT a) (hb : Srt cmpT b) (h : ∀ x ∈ a, ∀ y ∈ b, cmpT x y ≤ 0) : Srt cmpT (a ++ b) := List.pairwise_append.2 ⟨ha, hb, h⟩
theorem srt_take {a : List T} (ha : Srt cmpT a) (n : Nat) : Srt cmpT (a.take n) := List.Pairwise.sublist (List.take_sublist n a) ha
theorem srt_drop {a : List T} (ha : Srt cmpT a) (n : Nat) : Srt cmpT (a.drop n) := List.Pairwise.sublist (List.drop_sublist n a) ha
/-- One element goes to its place. -/
theorem srt_one {Y : List T} {x : T} (hY : Srt cmpT Y) {p : Nat} (h1 : ∀ y ∈ Y.take p, cmpT y x ≤ 0) (h2 : ∀ y ∈ Y.drop p, cmpT x y ≤ 0) {l : List T} (hl : l.Perm (x :: Y)) : Y.take p ++ x :: Y.drop p = sortC cmpT l := by
  refine sortC_uniq cmpT_is (srt_app (srt_take hY p) (List.pairwise_cons.2 ⟨h2, srt_drop hY p⟩) (fun a ha b hb => ?_)) ?_
  · rcases List.mem_cons.1 hb with rfl | hb
    · exact h1 a ha
    · have := hY
      rw [← List.take_append_drop p Y] at this
      exact (List.pairwise_append.1 this).2.2 a ha b hb
  · exact List.perm_middle.trans (by rw [List.take_append_drop]; exact hl.symm)
/-- Two rows in order, parted at places that fit: each part is brought in order by itself. -/
theorem symm_merge {X Y : List T} (hX : Srt cmpT X) (hY : Srt cmpT Y) {i j : Nat} (h1 : ∀ x ∈ X.take i, ∀ y ∈ Y.drop j, cmpT x y ≤ 0) (h2 : ∀ y ∈ Y.take j, ∀ x ∈ X.drop i, cmpT y x ≤ 0) :
    sortC cmpT (X.take i ++ Y.take j) ++ sortC cmpT (X.drop i ++ Y.drop j) = sortC cmpT (X ++ Y) := by
  have p1 := sortC_perm cmpT_is (X.take i ++ Y.take j)
  have p2 := sortC_perm cmpT_is (X.drop i ++ Y.drop j)
  have hX' := hX
  have hY' := hY
  rw [← List.take_append_drop i X] at hX'
  rw [← List.take_append_drop j Y] at hY'
  refine sortC_uniq cmpT_is (srt_app (sortC_srt cmpT_is _) (sortC_srt cmpT_is _) (fun a ha b hb => ?_)) ?_
  · have ha := p1.mem_iff.1 ha
    have hb := p2.mem_iff.1 hb
    rcases List.mem_append.1 ha with ha | ha <;> rcases List.mem_append.1 hb with hb | hb
    · exact (List.pairwise_append.1 hX').2.2 a ha b hb
    · exact h1 a ha b hb
    · exact h2 a ha b hb
    · exact (List.pairwise_append.1 hY').2.2 a ha b hb
  · refine (p1.append p2).trans ?_
    have : (X ++ Y).Perm ((X.take i ++ X.drop i) ++ (Y.take j ++ Y.drop j)) := by rw [List.take_append_drop, List.take_append_drop]
    refine List.Perm.trans ?_ this.symm
    simp only [List.append_assoc]
    refine List.Perm.append_left _ ?_
    rw [← List.append_assoc, ← List.append_assoc]
    exact List.Perm.append_right _ List.perm_append_comm
/-- The last of the one lies ahead of the first of the other: so all do. -/
theorem cut_le {X Y : List T} (hX : Srt cmpT X) (hY : Srt cmpT Y) {i j : Nat} (hi : i ≤ X.length) (h : ∀ x y, X[i - 1]? = some x → Y[j]? = some y → 0 < i → cmpT x y ≤ 0) : ∀ x ∈ X.take i, ∀ y ∈ Y.drop j, cmpT x y ≤ 0 := by
  intro x hx y hy
  obtain ⟨k, hk, rfl⟩ := List.mem_iff_getElem.1 hx
  obtain ⟨m, hm, rfl⟩ := List.mem_iff_getElem.1 hy
  simp only [List.length_take, List.length_drop] at hk hm
  rw [List.getElem_take, List.getElem_drop]
  have kx : X[k]? = some X[k] := List.getElem?_eq_getElem (by omega)
  have my : Y[j + m]? = some Y[j + m] := List.getElem?_eq_getElem (by omega)
  have jy : Y[j]? = some Y[j] := List.getElem?_eq_getElem (by omega)
  have ix : X[i - 1]? = some X[i - 1] := List.getElem?_eq_getElem (by omega)
  exact cmpT_is.le_trans (srt_get hX kx ix (by omega)) (cmpT_is.le_trans (h _ _ ix jy (by omega)) (srt_get hY jy my (by omega)))
theorem slice_at {A X C : List T} {a b : Nat} (h : A.length = a) (h2 : A.length + X.length = b) : ((A ++ X ++ C).drop a).take (b - a) = X := by
  subst h h2
  rw [List.append_assoc, List.drop_left, show A.length + X.length - A.length = X.length by omega, List.take_left]
theorem symm_facts {A X Y C l : List T} {a m b mid s e : Nat} (hl : l = A ++ X ++ Y ++ C) (k3 : A.length = a) (k1 : A.length + X.length = m) (k2 : A.length + X.length + Y.length = b) (sX : Srt cmpT X) (sY : Srt cmpT Y) (h1 : a ≤ s) (h2 : s ≤ m) (h3 : s ≤ mid) (he : e = mid + m - s) (h4 : mid + m ≤ s + b) (h5 : a ≤ mid) (h6 : mid ≤ b)
    (hle1 : ∀ x y, X[s - a - 1]? = some x → Y[e - m]? = some y → 0 < s - a → cmpT x y ≤ 0) (hle2 : ∀ y x, Y[e - m - 1]? = some y → X[s - a]? = some x → 0 < e - m → cmpT y x ≤ 0) :
    ∃ L1 L2 : List T, L1.length = l.length ∧ L2.length = l.length ∧ L1.Perm l ∧ L2.Perm l ∧ rotSeg l s m e = L1 ∧ (¬ (s < m ∧ m < e) → l = L1) ∧ srtSeg L1 a mid = L2 ∧ (¬ (a < s ∧ s < mid) → L1 = L2) ∧ srtSeg L2 mid b = A ++ sortC cmpT (X ++ Y) ++ C ∧ (¬ (mid < e ∧ e < b) → L2 = A ++ sortC cmpT (X ++ Y) ++ C) ∧
      Srt cmpT ((L1.drop a).take (s - a)) ∧ Srt cmpT ((L1.drop s).take (mid - s)) ∧ Srt cmpT ((L2.drop mid).take (e - mid)) ∧ Srt cmpT ((L2.drop e).take (b - e)) := by
  obtain ⟨i, hi⟩ : ∃ i, i = s - a := ⟨_, rfl⟩
  obtain ⟨j, hj⟩ : ∃ j, j = e - m := ⟨_, rfl⟩
  rw [← hi] at hle1 hle2
  rw [← hj] at hle1 hle2
  have hlen : l.length = A.length + X.length + Y.length + C.length := by rw [hl]; simp; omega
  have le1 : ∀ x ∈ X.take i, ∀ y ∈ Y.drop j, cmpT x y ≤ 0 := cut_le sX sY (by omega) hle1
  have le2 : ∀ y ∈ Y.take j, ∀ x ∈ X.drop i, cmpT y x ≤ 0 := cut_le sY sX (by omega) hle2
  have mg := symm_merge sX sY le1 le2
  have tX : (X.take i).length = i := by simp; omega
  have tY : (Y.take j).length = j := by simp; omega
  have uX : (X.drop i).length = X.length - i := by simp
  have uY : (Y.drop j).length = Y.length - j := by simp
  have eX := (List.take_append_drop i X).symm
  have eY := (List.take_append_drop j Y).symm
  have sX1 := srt_take sX i
  have sX2 := srt_drop sX i
  have sY1 := srt_take sY j
  have sY2 := srt_drop sY j
  generalize X.take i = X1 at *
  generalize X.drop i = X2 at *
  generalize Y.take j = Y1 at *
  generalize Y.drop j = Y2 at *
  have p1 := sortC_perm cmpT_is (X1 ++ Y1)
  have n0 := p1.length_eq
  rw [List.length_append] at n0
  have hl' : l = A ++ X1 ++ X2 ++ Y1 ++ Y2 ++ C := by rw [hl, eX, eY]; simp
  have nil2 : ∀ {Z : List T}, Z.length = 0 → Z = [] := fun h => List.eq_nil_of_length_eq_zero h
  refine ⟨A ++ X1 ++ Y1 ++ X2 ++ Y2 ++ C, A ++ sortC cmpT (X1 ++ Y1) ++ X2 ++ Y2 ++ C, ?_, ?_, ?_, ?_, ?_, fun h => ?_, ?_, fun h => ?_, ?_, fun h => ?_, ?_, ?_, ?_, ?_⟩
  · rw [hl']; simp only [List.length_append]; omega
  · rw [hl']; simp only [List.length_append]; omega
  · rw [hl']
    simp only [List.append_assoc]
    refine List.Perm.append_left _ (List.Perm.append_left _ ?_)
    rw [← List.append_assoc, ← List.append_assoc X2]
    exact List.Perm.append_right _ List.perm_append_comm
  · rw [hl']
    simp only [List.append_assoc]
    refine List.Perm.append_left _ ?_
    refine (List.Perm.append_right _ p1).trans ?_
    simp only [List.append_assoc]
    refine List.Perm.append_left _ ?_
    rw [← List.append_assoc, ← List.append_assoc X2]
    exact List.Perm.append_right _ List.perm_append_comm
  · rw [hl', show A ++ X1 ++ X2 ++ Y1 ++ Y2 ++ C = (A ++ X1) ++ X2 ++ Y1 ++ (Y2 ++ C) by simp]
    rw [rotSeg_at (by rw [List.length_append]; omega) (by rw [List.length_append]; omega) (by rw [List.length_append]; omega)]
    simp
  · rw [hl']
    by_cases h' : s = m
    · rw [nil2 (Z := X2) (by omega)]; simp
    · rw [nil2 (Z := Y1) (by omega)]; simp
  · rw [show A ++ X1 ++ Y1 ++ X2 ++ Y2 ++ C = A ++ (X1 ++ Y1) ++ (X2 ++ Y2 ++ C) by simp, srtSeg_at k3 (by rw [List.length_append]; omega)]
    simp
  · by_cases h' : s = a
    · rw [nil2 (Z := X1) (by omega)]; simp [sortC_of_srt sY1]
    · rw [nil2 (Z := Y1) (by omega)]; simp [sortC_of_srt sX1]
  · rw [show A ++ sortC cmpT (X1 ++ Y1) ++ X2 ++ Y2 ++ C = (A ++ sortC cmpT (X1 ++ Y1)) ++ (X2 ++ Y2) ++ C by simp, srtSeg_at (by rw [List.length_append]; omega) (by rw [List.length_append, List.length_append]; omega), ← mg]
    simp
  · rw [← mg]
    by_cases h' : s = m
    · rw [nil2 (Z := X2) (by omega)]; simp [sortC_of_srt sY2]
    · rw [nil2 (Z := Y2) (by omega)]; simp [sortC_of_srt sX2]
  · rw [show A ++ X1 ++ Y1 ++ X2 ++ Y2 ++ C = A ++ X1 ++ (Y1 ++ X2 ++ Y2 ++ C) by simp, slice_at k3 (by omega)]
    exact sX1
  · rw [show A ++ X1 ++ Y1 ++ X2 ++ Y2 ++ C = (A ++ X1) ++ Y1 ++ (X2 ++ Y2 ++ C) by simp, slice_at (by rw [List.length_append]; omega) (by rw [List.length_append]; omega)]
    exact sY1
  · rw [show A ++ sortC cmpT (X1 ++ Y1) ++ X2 ++ Y2 ++ C = (A ++ sortC cmpT (X1 ++ Y1)) ++ X2 ++ (Y2 ++ C) by simp, slice_at (by rw [List.length_append]; omega) (by rw [List.length_append]; omega)]
    exact sX2
  · rw [slice_at (by simp only [List.length_append]; omega) (by simp only [List.length_append]; omega)]
    exact sY2
end Go.Proofs.Pw
