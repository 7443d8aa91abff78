/- Trees added. -/
import Derived.Test.YtdnbniggdebegaaPwPlOk
set_option linter.unusedSimpArgs false
set_option linter.unusedVariables false
namespace Go.Proofs.Pw
set_option linter.unusedSectionVars false
variable [Globs]
/-- Keys and trees put one behind the other. -/
noncomputable def foldP : List ByteArray → List T → List ByteArray × List T → List ByteArray × List T
  | k :: ks, t :: l, p => foldP ks l (putS k t false p.1 p.2)
  | _, _, p => p
theorem foldP_succ : ∀ {ks : List ByteArray} {l : List T} {i : Nat} {k : ByteArray} {t : T} (p : List ByteArray × List T), ks[i]? = some k → l[i]? = some t →
    foldP (ks.take (i + 1)) (l.take (i + 1)) p = putS k t false (foldP (ks.take i) (l.take i) p).1 (foldP (ks.take i) (l.take i) p).2
  | [], _, _, _, _, _, h, _ => by simp at h
  | _ :: _, [], _, _, _, _, _, h => by simp at h
  | k0 :: ks, t0 :: l, i, k, t, p, h1, h2 => by
    cases i with
    | zero =>
      simp only [List.getElem?_cons_zero, Option.some.injEq] at h1 h2
      subst h1 h2
      simp [foldP]
    | succ i =>
      simp only [List.getElem?_cons_succ] at h1 h2
      simp only [List.take_succ_cons, foldP]
      exact foldP_succ _ h1 h2
/-- What is kept while keys and trees are put. -/
structure Good (B : Nat) (z : Int) (p : List ByteArray × List T) : Prop where
  asc : Asc p.1
  len : p.1.length = p.2.length
  few : p.1.length ≤ B
  ks : ∀ s ∈ p.1, (s.size : Int) ≤ 60
  fit : fitL 60 p.2
  size : sizeL p.2 ≤ z
theorem fitL_iff {B : Int} {l : List T} : fitL B l ↔ ∀ t ∈ l, t.fit B := ⟨fun h t ht => fitL_in h t ht, fitL_of⟩
theorem Good.put {B : Nat} {z : Int} {p : List ByteArray × List T} (h : Good B z p) {k : ByteArray} {t : T} (hk : (k.size : Int) ≤ 60) (ht : t.fit 60) : Good (B + 1) (z + sizeT t) (putS k t false p.1 p.2) := by
  have h1 := (putS_len k t false p.1 p.2).1
  have h2 := putS_mem k t false p.1 p.2
  have h3 := putS_size k t false p.1 p.2
  have h4 := h.few
  have h5 := h.size
  refine ⟨putS_asc h.asc h.len, putS_len2 h.asc h.len, by simp at h1; omega, fun s hs => ?_, fitL_iff.2 fun x hx => ?_, by simp at h3; omega⟩
  · rcases h2.1 s hs with rfl | h6
    · exact hk
    · exact h.ks s h6
  · rcases h2.2 x hx with rfl | h6
    · exact ht
    · exact fitL_in h.fit x h6
theorem sizeL_take (l : List T) (i : Nat) {t : T} (h : l[i]? = some t) : sizeL (l.take (i + 1)) = sizeL (l.take i) + sizeT t := by
  induction l generalizing i with
  | nil => simp at h
  | cons x l ih =>
    cases i with
    | zero => simp at h; subst h; simp [sizeL]
    | succ i => simp only [List.take_succ_cons, sizeL]; rw [ih i (by simpa using h)]; omega
theorem good_fold {B : Nat} {z : Int} {p : List ByteArray × List T} (h : Good B z p) {ks : List ByteArray} {l : List T} (hk : ∀ s ∈ ks, (s.size : Int) ≤ 60) (hl : fitL 60 l) (he : ks.length = l.length) : ∀ i, i ≤ ks.length → Good (B + i) (z + sizeL (l.take i)) (foldP (ks.take i) (l.take i) p) := by
  intro i
  induction i with
  | zero => intro _; simpa [foldP, sizeL] using h
  | succ i ih =>
    intro hi
    obtain ⟨k, hk1⟩ : ∃ k, ks[i]? = some k := ⟨_, List.getElem?_eq_getElem (by omega)⟩
    obtain ⟨t, ht1⟩ : ∃ t, l[i]? = some t := ⟨_, List.getElem?_eq_getElem (by omega)⟩
    rw [foldP_succ p hk1 ht1, sizeL_take l i ht1]
    have := (ih (by omega)).put (k := k) (t := t) (hk k (List.mem_of_getElem? hk1)) (fitL_in hl t (List.mem_of_getElem? ht1))
    rw [← Int.add_assoc, ← Nat.add_assoc]
    exact this
/-- A map that is ok. -/
theorem okT_map {k n : Int} {s : ByteArray} {ks : List ByteArray} {l : List T} (h : okT (.mk k n s ks l)) (hk : k = 6) : n = 0 ∧ s = ⟨#[]⟩ ∧ ks.length = l.length ∧ okKeys ks := by
  have h1 := h.1
  simp only [formT] at h1
  obtain ⟨h1, h2, h3, h4, h5, h6, h7, h8, h9, h10, h11, h12⟩ := h1
  exact ⟨by omega, h3.resolve_left (by omega), h11 hk⟩
theorem good_map {k n : Int} {s : ByteArray} {ks : List ByteArray} {l : List T} (h : okT (.mk k n s ks l)) (hk : k = 6) : Good 60 60 (ks, l) := by
  obtain ⟨h1, h2, h3, h4⟩ := okT_map h hk
  have h5 := okT_fit h
  simp only [T.fit] at h5
  obtain ⟨_, _, _, h6, h7, h8⟩ := h5
  have h9 := okT_size h
  simp only [sizeT] at h9
  exact ⟨okKeys_asc h4, h3, by have := h6.1; unfold lenB at this; show ks.length ≤ 60; omega, h6.2, h8, by show sizeL l ≤ 60; omega⟩
/-- What is no row and no map has no parts. -/
theorem okT_leaf {k n : Int} {s : ByteArray} {ks : List ByteArray} {l : List T} (h : okT (.mk k n s ks l)) (hk : k < 5) : ks = [] ∧ l = [] := by
  have h1 := h.1
  simp only [formT] at h1
  obtain ⟨h1, h2, h3, h4, h5, h6, h7, h8, h9, h10, h11, h12⟩ := h1
  exact ⟨h4.resolve_left (by omega), h5.resolve_left (by omega)⟩
theorem okT_head {k n : Int} {s : ByteArray} {ks : List ByteArray} {l : List T} (h : okT (.mk k n s ks l)) : (k = 3 ∨ n = 0) ∧ (k = 4 ∨ s = ⟨#[]⟩) ∧ (k = 6 ∨ ks = []) ∧ 0 ≤ k ∧ k ≤ 6 ∧ -1000000 ≤ n ∧ n ≤ 1000000 ∧ s.size ≤ 12 := by
  have h1 := h.1
  simp only [formT] at h1
  obtain ⟨h1, h2, h3, h4, h5, h6, h7, h8, h9, h10, h11, h12⟩ := h1
  exact ⟨h2, h3, h4, h6, h7, h8, h9, h10.2⟩
/-- Two trees that are ok, added: whatever comes of it. -/
noncomputable def addRaw : T → T → Option T
  | .mk k n s ks l, .mk k' n' s' ks' l' =>
    if k = 0 then some (.mk k' n' s' ks' l') else if k' = 0 then some (.mk k n s ks l) else if k ≠ k' then none
    else if k = 3 then some (.mk 3 (n + n') ⟨#[]⟩ [] []) else if k = 4 then some (.mk 4 0 (s ++ s') [] [])
    else if k = 5 then some (.mk 5 0 ⟨#[]⟩ [] (l ++ l')) else if k = 6 then some (.mk 6 0 ⟨#[]⟩ (foldP ks' l' (ks, l)).1 (foldP ks' l' (ks, l)).2) else none
open Classical in
noncomputable def addT (a b : T) : T := if okT a ∧ okT b then (match addRaw a b with | some t => if okT t then t else T.zero | none => T.zero) else T.zero
def addOk (a b : T) : Prop := okT a ∧ okT b ∧ ∃ t, addRaw a b = some t ∧ okT t
noncomputable instance (a b : T) : Decidable (addOk a b) := Classical.propDecidable _
theorem addT_some {a b t : T} (ha : okT a) (hb : okT b) (h : addRaw a b = some t) : addT a b = toldT true t ∧ (addOk a b ↔ okT t) := by
  unfold addT toldT addOk
  rw [if_pos ⟨ha, hb⟩, h]
  simp [ha, hb]
theorem addT_none {a b : T} (ha : okT a) (hb : okT b) (h : addRaw a b = none) : addT a b = T.zero ∧ (addOk a b ↔ False) := by
  unfold addT addOk
  rw [if_pos ⟨ha, hb⟩, h]
  simp
theorem addT_not {a b : T} (h : ¬ (okT a ∧ okT b)) : addT a b = T.zero ∧ (addOk a b ↔ False) := by
  unfold addT addOk
  rw [if_neg h]
  exact ⟨rfl, fun ⟨h1, h2, _⟩ => h ⟨h1, h2⟩, fun h => h.elim⟩
theorem addT_ok (a b : T) : okT (addT a b) := by
  unfold addT
  split
  · split
    · split
      · assumption
      · exact okT_zero'
    · exact okT_zero'
  · exact okT_zero'
end Go.Proofs.Pw
