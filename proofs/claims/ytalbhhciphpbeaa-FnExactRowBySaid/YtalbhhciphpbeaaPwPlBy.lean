/- Rows, grouped by what stands under a key. -/
import Derived.Test.YtalbhhciphpbeaaPwPlOnce
import Derived.Test.YtalbhhciphpbeaaPwSo2
set_option linter.unusedSimpArgs false
set_option linter.unusedVariables false
namespace Go.Proofs.Pw
set_option linter.unusedSectionVars false
variable [Globs]
/-- Where in a list of keys a key is, from i on. -/
def idxS (x : ByteArray) : Nat → List ByteArray → Int
  | _, [] => -1
  | i, y :: r => if x = y then i else idxS x (i + 1) r
theorem idxS_rng {x : ByteArray} : ∀ {l : List ByteArray} {i : Nat}, -1 ≤ idxS x i l ∧ idxS x i l < i + l.length
  | [], i => by simp [idxS]; omega
  | y :: r, i => by
    have := idxS_rng (x := x) (l := r) (i := i + 1)
    simp only [idxS, List.length_cons]
    split <;> omega
open Classical in
/-- What stands under a key. -/
noncomputable def getT (key : ByteArray) (v : T) : T := if v.kind = 6 ∧ 0 ≤ idxS key 0 v.keys then v.list.getD (idxS key 0 v.keys).toNat T.zero else T.zero
def getOk (v : T) : Prop := v.kind = 6 ∨ v.kind = 0
noncomputable instance (v : T) : Decidable (getOk v) := Classical.propDecidable _
theorem okT_keys {k n : Int} {s : ByteArray} {ks : List ByteArray} {l : List T} (h : okT (.mk k n s ks l)) (hk : k = 6) : ks.length = l.length := by
  have := h.1; simp only [formT] at this; exact (this.2.2.2.2.2.2.2.2.2.2.1 hk).1
theorem okT_none {v : T} (h : okT v) (hk : v.kind = 0) : v = T.zero := by
  obtain ⟨k, n, s, ks, l⟩ := v
  have := h.1; simp only [formT] at this
  simp only [T.kind] at hk
  obtain ⟨_, h1, h2, h3, h4, _⟩ := this
  have e1 : n = 0 := by omega
  have e2 : s = ⟨#[]⟩ := by rcases h2 with h | h; omega; exact h
  have e3 : ks = [] := by rcases h3 with h | h; omega; exact h
  have e4 : l = [] := by rcases h4 with h | h; omega; exact h
  subst e1 e2 e3 e4 hk; rfl
theorem getT_mem {key : ByteArray} {v : T} (h : okT v) : getT key v = T.zero ∨ getT key v ∈ v.list := by
  unfold getT
  split
  · rename_i c
    obtain ⟨k, n, s, ks, l⟩ := v
    have hl := okT_keys h c.1
    have hr := idxS_rng (x := key) (l := ks) (i := 0)
    simp only [T.keys, T.list] at c ⊢
    have hlt : (idxS key 0 ks).toNat < l.length := by omega
    right
    rw [List.getD_eq_getElem?_getD, List.getElem?_eq_getElem hlt]; simp
  · exact .inl rfl
theorem fitL_in {B : Int} : ∀ {l : List T}, fitL B l → ∀ t ∈ l, t.fit B
  | _ :: _, h, t, ht => by
    rcases List.mem_cons.1 ht with rfl | ht
    · exact h.1
    · exact fitL_in h.2 t ht
theorem getT_fit {B : Int} (h0 : 0 ≤ B) {key : ByteArray} {v : T} (h : okT v) (hf : v.fit B) : (getT key v).fit B := by
  rcases getT_mem (key := key) h with e | e
  · rw [e]; exact ⟨by unfold i64; omega, by unfold i64; omega, by unfold lenB; exact h0, ⟨by unfold lenB; exact h0, by simp⟩, by unfold lenB; exact h0, trivial⟩
  · obtain ⟨k, n, s, ks, l⟩ := v; exact fitL_in hf.2.2.2.2.2 _ e
open Classical in
noncomputable def pickL (key : ByteArray) (l : List T) (y : T) : List T := l.filter fun x => decide (getT key x = y)
noncomputable def marks (key : ByteArray) (l : List T) : List T := l.map (getT key)
noncomputable def byL (key : ByteArray) (l : List T) : List T := (onceL (marks key l)).map fun y => T.mk 5 0 ⟨#[]⟩ [] (pickL key l y)
def byOk (v : T) (key : ByteArray) : Prop := rowT v ∧ okS key ∧ ∀ x ∈ v.list, getOk x
noncomputable instance (v : T) (key : ByteArray) : Decidable (byOk v key) := Classical.propDecidable _
noncomputable def byT (v : T) (key : ByteArray) : T := if byOk v key then toldT true (.mk 5 0 ⟨#[]⟩ [] (byL key v.list)) else T.zero
theorem pickL_take {key : ByteArray} {l : List T} {i : Nat} {x y : T} (hx : l[i]? = some x) : pickL key (l.take (i + 1)) y = pickL key (l.take i) y ++ (if getT key x = y then [x] else []) := by
  unfold pickL
  rw [take_snoc hx, List.filter_append]
  congr 1
  by_cases h : getT key x = y <;> simp [h]
theorem pickL_mem {key : ByteArray} {l : List T} {x y : T} : x ∈ pickL key l y ↔ x ∈ l ∧ getT key x = y := by simp [pickL]
theorem onceL_pw (l : List T) : (onceL l).Pairwise (fun a b => cmpT a b < 0) := onc_lt (sortC_srt cmpT_is l)
theorem byL_len (key : ByteArray) (l : List T) : (byL key l).length ≤ l.length := by
  unfold byL; rw [List.length_map]; have := onceL_len (marks key l); unfold marks at this; rwa [List.length_map] at this
theorem size_aux {key : ByteArray} {x : T} : ∀ {ys : List T}, ys.Pairwise (fun a b => cmpT a b < 0) → ∀ l : List T,
    (ys.map fun y => sizeL (pickL key (x :: l) y)).sum = (ys.map fun y => sizeL (pickL key l y)).sum + (if getT key x ∈ ys then sizeT x else 0)
  | [], _, l => by simp
  | y :: ys, h, l => by
    have ih := size_aux (key := key) (x := x) (List.pairwise_cons.1 h).2 l
    have hn : getT key x = y → getT key x ∉ ys := fun e k => by
      have := (List.pairwise_cons.1 h).1 _ k
      rw [e, cmpT_is.self] at this; omega
    simp only [List.map_cons, List.sum_cons, ih]
    by_cases e : getT key x = y
    · have h1 : sizeL (pickL key (x :: l) y) = sizeT x + sizeL (pickL key l y) := by simp [pickL, e, sizeL]
      rw [h1, if_neg (hn e), if_pos (by rw [e]; simp)]; omega
    · have h1 : sizeL (pickL key (x :: l) y) = sizeL (pickL key l y) := by simp [pickL, e]
      rw [h1]
      by_cases m : getT key x ∈ ys
      · rw [if_pos m, if_pos (by simp [m])]; omega
      · rw [if_neg m, if_neg (by simp [m, e])]; omega
theorem size_by {key : ByteArray} {ys : List T} (h : ys.Pairwise (fun a b => cmpT a b < 0)) : ∀ {l : List T}, (ys.map fun y => sizeL (pickL key l y)).sum ≤ sizeL l
  | [] => by
    have : ∀ zs : List T, (zs.map fun y => sizeL (pickL key [] y)).sum = 0 := fun zs => by
      induction zs with
      | nil => rfl
      | cons y zs ih => simp only [List.map_cons, List.sum_cons, ih]; simp [pickL, sizeL]
    rw [this]; simp [sizeL]
  | x :: l => by
    have := size_by (key := key) h (l := l)
    have h3 := manyT_le x 0
    rw [size_aux h]; simp only [sizeL]
    split <;> omega
theorem sizeL_rows (ys : List T) (f : T → List T) : sizeL (ys.map fun y => T.mk 5 0 ⟨#[]⟩ [] (f y)) = ys.length + (ys.map fun y => sizeL (f y)).sum := by
  induction ys with
  | nil => simp [sizeL]
  | cons y ys ih => simp only [List.map_cons, sizeL, sizeT, ih, List.sum_cons, List.length_cons]; omega
theorem byL_size (key : ByteArray) (l : List T) : sizeL (byL key l) ≤ l.length + sizeL l := by
  unfold byL
  rw [sizeL_rows]
  have h1 := size_by (key := key) (onceL_pw (marks key l)) (l := l)
  have h2 := onceL_len (marks key l)
  have h3 : (marks key l).length = l.length := List.length_map ..
  omega
theorem pickL_len (key : ByteArray) (l : List T) (y : T) : (pickL key l y).length ≤ l.length := List.length_filter_le _ _
theorem byL_fit {B : Int} (h0 : 0 ≤ B) {key : ByteArray} {l : List T} (h1 : lenB B l.length) (h2 : fitL B l) : fitL B (byL key l) := by
  refine fitL_of fun g hg => ?_
  obtain ⟨y, _, rfl⟩ := List.mem_map.1 hg
  refine ⟨by unfold i64; omega, by unfold i64; omega, by unfold lenB; exact h0, ⟨by unfold lenB; exact h0, by simp⟩, ?_, fitL_of fun t ht => fitL_in h2 t (pickL_mem.1 ht).1⟩
  have := pickL_len key l y
  unfold lenB at h1 ⊢; omega
theorem marks_fit {B : Int} (h0 : 0 ≤ B) {key : ByteArray} {l : List T} (ho : ∀ x ∈ l, okT x) (h2 : fitL B l) : fitL B (marks key l) := by
  refine fitL_of fun g hg => ?_
  obtain ⟨x, hx, rfl⟩ := List.mem_map.1 hg
  exact getT_fit h0 (ho x hx) (fitL_in h2 x hx)
theorem marks_take {key : ByteArray} {l : List T} {i : Nat} {x : T} (hx : l[i]? = some x) : marks key (l.take (i + 1)) = marks key (l.take i) ++ [getT key x] := by
  unfold marks; rw [take_snoc hx, List.map_append]; rfl
end Go.Proofs.Pw
