/- Rows, grouped by what stands under a key. -/
import Derived.Test.YtiimmibdlhgkfaaPwPlOnce
import Derived.Test.YtiimmibdlhgkfaaPwSo2
set_option linter.unusedSimpArgs false
set_option linter.unusedVariables false
namespace Go.Proofs.Pw
set_option linter.unusedSectionVars false
variable [Globs]
/-- Where in a list of keys a key is, from i on. -/
def idxS (x : ByteArray) : Nat → List ByteArray → Int
  | _, [] => -1
  | i, y :: r => if x = y then i else idxS x (i + 1) r
theorem idxS_rng {x : ByteArray} : ∀ {l : List ByteArray} {i : Nat}, -1 ≤ idxS x i l ∧ idxS x i l < i + l.length
  | [], i => by simp [idxS]; omega
  | y :: r, i => by
    have := idxS_rng (x := x) (l := r) (i := i + 1)
    simp only [idxS, List.length_cons]
    split <;> omega
open Classical in
/-- What stands under a key. -/
noncomputable def getT (key : ByteArray) (v : T) : T := if v.kind = 6 ∧ 0 ≤ idxS key 0 v.keys then v.list.getD (idxS key 0 v.keys).toNat T.zero else T.zero
def getOk (v : T) : Prop := v.kind = 6 ∨ v.kind = 0
noncomputable instance (v : T) : Decidable (getOk v) := Classical.propDecidable _
theorem okT_keys {k n : Int} {s : ByteArray} {ks : List ByteArray} {l : List T} (h : okT (.mk k n s ks l)) (hk : k = 6) : ks.length = l.length := by
  have := h.1; simp only [formT] at this; exact (this.2.2.2.2.2.2.2.2.2.2.1 hk).1
theorem okT_none {v : T} (h : okT v) (hk : v.kind = 0) : v = T.zero := by
  obtain ⟨k, n, s, ks, l⟩ := v
  have := h.1; simp only [formT] at this
  simp only [T.kind] at hk
  obtain ⟨_, h1, h2, h3, h4, _⟩ := this
  have e1 : n = 0 := by omega
  have e2 : s = ⟨#[]⟩ := by rcases h2 with h | h; omega; exact h
  have e3 : ks = [] := by rcases h3 with h | h; omega; exact h
  have e4 : l = [] := by rcases h4 with h | h; omega; exact h
  subst e1 e2 e3 e4 hk; rfl
theorem getT_mem {key : ByteArray} {v : T} (h : okT v) : getT key v = T.zero ∨ getT key v ∈ v.list := by
  unfold getT
  split
  · rename_i c
    obtain ⟨k, n, s, ks, l⟩ := v
    have hl := okT_keys h c.1
    have hr := idxS_rng (x := key) (l := ks) (i := 0)
    simp only [T.keys, T.list] at c ⊢
    have hlt : (idxS key 0 ks).toNat < l.length := by omega
    right
    rw [List.getD_eq_getElem?_getD, List.getElem?_eq_getElem hlt]; simp
  · exact .inl rfl
theorem okT_zero' : okT T.zero := ⟨by simp [T.zero, formT, formL, okS_nil], by simp [T.zero, manyT, manyL]⟩
theorem getT_ok {key : ByteArray} {v : T} (h : okT v) : okT (getT key v) := by
  rcases getT_mem (key := key) h with e | e
  · rw [e]; exact okT_zero'
  · obtain ⟨k, n, s, ks, l⟩ := v; exact okT_elem h e
theorem fitL_in {B : Int} : ∀ {l : List T}, fitL B l → ∀ t ∈ l, t.fit B
  | _ :: _, h, t, ht => by
    rcases List.mem_cons.1 ht with rfl | ht
    · exact h.1
    · exact fitL_in h.2 t ht
theorem getT_fit {B : Int} (h0 : 0 ≤ B) {key : ByteArray} {v : T} (h : okT v) (hf : v.fit B) : (getT key v).fit B := by
  rcases getT_mem (key := key) h with e | e
  · rw [e]; exact ⟨by unfold i64; omega, by unfold i64; omega, by unfold lenB; exact h0, ⟨by unfold lenB; exact h0, by simp⟩, by unfold lenB; exact h0, trivial⟩
  · obtain ⟨k, n, s, ks, l⟩ := v; exact fitL_in hf.2.2.2.2.2 _ e
open Classical in
noncomputable def pickL (key : ByteArray) (l : List T) (y : T) : List T := l.filter fun x => decide (getT key x = y)
noncomputable def marks (key : ByteArray) (l : List T) : List T := l.map (getT key)
noncomputable def byL (key : ByteArray) (l : List T) : List T := (onceL (marks key l)).map fun y => T.mk 5 0 ⟨#[]⟩ [] (pickL key l y)
def byOk (v : T) (key : ByteArray) : Prop := rowT v ∧ okS key ∧ ∀ x ∈ v.list, getOk x
noncomputable instance (v : T) (key : ByteArray) : Decidable (byOk v key) := Classical.propDecidable _
noncomputable def byT (v : T) (key : ByteArray) : T := if byOk v key then toldT true (.mk 5 0 ⟨#[]⟩ [] (byL key v.list)) else T.zero
theorem pickL_take {key : ByteArray} {l : List T} {i : Nat} {x y : T} (hx : l[i]? = some x) : pickL key (l.take (i + 1)) y = pickL key (l.take i) y ++ (if getT key x = y then [x] else []) := by
  unfold pickL
  rw [take_snoc hx, List.filter_append]
  congr 1
  by_cases h : getT key x = y <;> simp [h]
theorem pickL_mem {key : ByteArray} {l : List T} {x y : T} : x ∈ pickL key l y ↔ x ∈ l ∧ getT key x = y := by simp [pickL]
/-- Each is counted once. -/
theorem count_aux {key : ByteArray} {x : T} : ∀ {ys : List T}, ys.Pairwise (fun a b => cmpT a b < 0) → ∀ l : List T,
    (ys.map fun y => (pickL key (x :: l) y).length).sum = (ys.map fun y => (pickL key l y).length).sum + (if getT key x ∈ ys then 1 else 0)
  | [], _, l => by simp
  | y :: ys, h, l => by
    have ih := count_aux (key := key) (x := x) (List.pairwise_cons.1 h).2 l
    have hn : getT key x = y → getT key x ∉ ys := fun e k => by
      have := (List.pairwise_cons.1 h).1 _ k
      rw [e, cmpT_is.self] at this; omega
    simp only [List.map_cons, List.sum_cons, ih]
    by_cases e : getT key x = y
    · have h1 : (pickL key (x :: l) y).length = (pickL key l y).length + 1 := by simp [pickL, e]
      rw [h1, if_neg (hn e), if_pos (by rw [e]; simp)]; omega
    · have h1 : (pickL key (x :: l) y).length = (pickL key l y).length := by simp [pickL, e]
      rw [h1]
      by_cases m : getT key x ∈ ys
      · rw [if_pos m, if_pos (by simp [m])]; omega
      · rw [if_neg m, if_neg (by simp [m, e])]; omega
theorem count_by {key : ByteArray} {ys : List T} (h : ys.Pairwise (fun a b => cmpT a b < 0)) : ∀ {l : List T}, (∀ x ∈ l, getT key x ∈ ys) → (ys.map fun y => (pickL key l y).length).sum = l.length
  | [], _ => by induction ys with
    | nil => rfl
    | cons y ys ih => simp [pickL] at ih ⊢; exact ih (List.pairwise_cons.1 h).2
  | x :: l, hm => by
    rw [count_aux h, count_by h (fun x hx => hm x (by simp [hx])), if_pos (hm x (by simp))]; simp
theorem onceL_pw (l : List T) : (onceL l).Pairwise (fun a b => cmpT a b < 0) := onc_lt (sortC_srt cmpT_is l)
theorem byL_count (key : ByteArray) (l : List T) : ((byL key l).map fun g => g.list.length).sum = l.length := by
  have := count_by (key := key) (onceL_pw (marks key l)) (l := l) (fun x hx => (onceL_mem _ _).2 (List.mem_map.2 ⟨x, hx, rfl⟩))
  rw [← this]; unfold byL; rw [List.map_map]; rfl
theorem byL_len (key : ByteArray) (l : List T) : (byL key l).length ≤ l.length := by
  unfold byL; rw [List.length_map]; have := onceL_len (marks key l); unfold marks at this; rwa [List.length_map] at this
/-- The rows of a row put together. -/
def flatL : List T → List T
  | [] => []
  | x :: l => (if x.kind = 5 then x.list else [x]) ++ flatL l
theorem flatL_app (a b : List T) : flatL (a ++ b) = flatL a ++ flatL b := by
  induction a with
  | nil => rfl
  | cons x a ih => simp only [List.cons_append, flatL, ih, List.append_assoc]
theorem flatL_len {l : List T} (h : ∀ x ∈ l, x.kind = 5) : (flatL l).length = (l.map fun g => g.list.length).sum := by
  induction l with
  | nil => rfl
  | cons x l ih => simp only [flatL, if_pos (h x (by simp)), List.length_append, List.map_cons, List.sum_cons]; rw [ih (fun y hy => h y (by simp [hy]))]
noncomputable def flatT (v : T) : T := if rowT v then toldT true (.mk 5 0 ⟨#[]⟩ [] (flatL v.list)) else T.zero
theorem size_aux {key : ByteArray} {x : T} : ∀ {ys : List T}, ys.Pairwise (fun a b => cmpT a b < 0) → ∀ l : List T,
    (ys.map fun y => sizeL (pickL key (x :: l) y)).sum = (ys.map fun y => sizeL (pickL key l y)).sum + (if getT key x ∈ ys then sizeT x else 0)
  | [], _, l => by simp
  | y :: ys, h, l => by
    have ih := size_aux (key := key) (x := x) (List.pairwise_cons.1 h).2 l
    have hn : getT key x = y → getT key x ∉ ys := fun e k => by
      have := (List.pairwise_cons.1 h).1 _ k
      rw [e, cmpT_is.self] at this; omega
    simp only [List.map_cons, List.sum_cons, ih]
    by_cases e : getT key x = y
    · have h1 : sizeL (pickL key (x :: l) y) = sizeT x + sizeL (pickL key l y) := by simp [pickL, e, sizeL]
      rw [h1, if_neg (hn e), if_pos (by rw [e]; simp)]; omega
    · have h1 : sizeL (pickL key (x :: l) y) = sizeL (pickL key l y) := by simp [pickL, e]
      rw [h1]
      by_cases m : getT key x ∈ ys
      · rw [if_pos m, if_pos (by simp [m])]; omega
      · rw [if_neg m, if_neg (by simp [m, e])]; omega
theorem size_by {key : ByteArray} {ys : List T} (h : ys.Pairwise (fun a b => cmpT a b < 0)) : ∀ {l : List T}, (ys.map fun y => sizeL (pickL key l y)).sum ≤ sizeL l
  | [] => by
    have : ∀ zs : List T, (zs.map fun y => sizeL (pickL key [] y)).sum = 0 := fun zs => by
      induction zs with
      | nil => rfl
      | cons y zs ih => simp only [List.map_cons, List.sum_cons, ih]; simp [pickL, sizeL]
    rw [this]; simp [sizeL]
  | x :: l => by
    have := size_by (key := key) h (l := l)
    have h3 := manyT_le x 0
    rw [size_aux h]; simp only [sizeL]
    split <;> omega
theorem sizeL_rows (ys : List T) (f : T → List T) : sizeL (ys.map fun y => T.mk 5 0 ⟨#[]⟩ [] (f y)) = ys.length + (ys.map fun y => sizeL (f y)).sum := by
  induction ys with
  | nil => simp [sizeL]
  | cons y ys ih => simp only [List.map_cons, sizeL, sizeT, ih, List.sum_cons, List.length_cons]; omega
theorem byL_size (key : ByteArray) (l : List T) : sizeL (byL key l) ≤ l.length + sizeL l := by
  unfold byL
  rw [sizeL_rows]
  have h1 := size_by (key := key) (onceL_pw (marks key l)) (l := l)
  have h2 := onceL_len (marks key l)
  have h3 : (marks key l).length = l.length := List.length_map ..
  omega
theorem pickL_len (key : ByteArray) (l : List T) (y : T) : (pickL key l y).length ≤ l.length := List.length_filter_le _ _
theorem pickL_ne {key : ByteArray} {l : List T} {y : T} (h : y ∈ marks key l) : pickL key l y ≠ [] := by
  obtain ⟨x, hx, rfl⟩ := List.mem_map.1 h
  exact List.ne_nil_of_mem (pickL_mem.2 ⟨hx, rfl⟩)
theorem byL_fit {B : Int} (h0 : 0 ≤ B) {key : ByteArray} {l : List T} (h1 : lenB B l.length) (h2 : fitL B l) : fitL B (byL key l) := by
  refine fitL_of fun g hg => ?_
  obtain ⟨y, _, rfl⟩ := List.mem_map.1 hg
  refine ⟨by unfold i64; omega, by unfold i64; omega, by unfold lenB; exact h0, ⟨by unfold lenB; exact h0, by simp⟩, ?_, fitL_of fun t ht => fitL_in h2 t (pickL_mem.1 ht).1⟩
  have := pickL_len key l y
  unfold lenB at h1 ⊢; omega
theorem marks_fit {B : Int} (h0 : 0 ≤ B) {key : ByteArray} {l : List T} (ho : ∀ x ∈ l, okT x) (h2 : fitL B l) : fitL B (marks key l) := by
  refine fitL_of fun g hg => ?_
  obtain ⟨x, hx, rfl⟩ := List.mem_map.1 hg
  exact getT_fit h0 (ho x hx) (fitL_in h2 x hx)
theorem marks_take {key : ByteArray} {l : List T} {i : Nat} {x : T} (hx : l[i]? = some x) : marks key (l.take (i + 1)) = marks key (l.take i) ++ [getT key x] := by
  unfold marks; rw [take_snoc hx, List.map_append]; rfl
theorem flatL_take {l : List T} {i : Nat} {x : T} (hx : l[i]? = some x) : flatL (l.take (i + 1)) = flatL (l.take i) ++ (if x.kind = 5 then x.list else [x]) := by
  rw [take_snoc hx, flatL_app]; congr 1; simp [flatL]
theorem flatL_le {l : List T} (i : Nat) : (flatL (l.take i)).length ≤ (flatL l).length := by
  have : flatL l = flatL (l.take i) ++ flatL (l.drop i) := by rw [← flatL_app, List.take_append_drop]
  rw [this]; simp
theorem flatL_fit {B : Int} {l : List T} (h : fitL B l) : fitL B (flatL l) := by
  refine fitL_of fun t ht => ?_
  induction l with
  | nil => simp [flatL] at ht
  | cons x l ih =>
    simp only [flatL] at ht
    rcases List.mem_append.1 ht with ht | ht
    · split at ht
      · obtain ⟨k, n, s, ks, li⟩ := x; exact fitL_in h.1.2.2.2.2.2 t ht
      · simp only [List.mem_singleton] at ht; rw [ht]; exact h.1
    · exact ih h.2 ht
open Classical in
/-- Keys and trees, a key put in its place. -/
noncomputable def putS (key : ByteArray) (x : T) : Bool → List ByteArray → List T → List ByteArray × List T
  | done, k :: ks, t :: l =>
    let d := !done && !decide (sl k key)
    let r := putS key x (done || d) ks l
    ((if d then [key] else []) ++ (if k = key then [] else [k]) ++ r.1, (if d then [x] else []) ++ (if k = key then [] else [t]) ++ r.2)
  | done, _, _ => if done then ([], []) else ([key], [x])
theorem putS_len (key : ByteArray) (x : T) : ∀ (done : Bool) (ks : List ByteArray) (l : List T), (putS key x done ks l).1.length ≤ ks.length + (if done then 0 else 1) ∧ (putS key x done ks l).2.length ≤ l.length + (if done then 0 else 1)
  | done, k :: ks, t :: l => by
    have ih := putS_len key x (done || (!done && !decide (sl k key))) ks l
    simp only [putS]
    by_cases d : k = key
    · subst d
      have hs : ¬ sl k k := sl_irrefl k
      cases done <;> simp [hs] at ih ⊢ <;> omega
    · by_cases c : sl k key <;> cases done <;> simp [c, d] at ih ⊢ <;> omega
  | done, [], l => by cases done <;> simp [putS]
  | done, k :: ks, [] => by cases done <;> simp [putS]
theorem putS_mem (key : ByteArray) (x : T) : ∀ (done : Bool) (ks : List ByteArray) (l : List T), (∀ s ∈ (putS key x done ks l).1, s = key ∨ s ∈ ks) ∧ (∀ t ∈ (putS key x done ks l).2, t = x ∨ t ∈ l)
  | done, k :: ks, t :: l => by
    have ih := putS_mem key x (done || (!done && !decide (sl k key))) ks l
    simp only [putS]
    refine ⟨fun s hs => ?_, fun s hs => ?_⟩
    · rcases List.mem_append.1 hs with hs | hs
      · rcases List.mem_append.1 hs with hs | hs
        · split at hs <;> simp at hs; exact .inl hs
        · split at hs <;> simp at hs; exact .inr (by simp [hs])
      · rcases ih.1 s hs with h | h
        · exact .inl h
        · exact .inr (by simp [h])
    · rcases List.mem_append.1 hs with hs | hs
      · rcases List.mem_append.1 hs with hs | hs
        · split at hs <;> simp at hs; exact .inl hs
        · split at hs <;> simp at hs; exact .inr (by simp [hs])
      · rcases ih.2 s hs with h | h
        · exact .inl h
        · exact .inr (by simp [h])
  | done, [], l => by cases done <;> simp [putS]
  | done, k :: ks, [] => by cases done <;> simp [putS]
theorem putS_size (key : ByteArray) (x : T) : ∀ (done : Bool) (ks : List ByteArray) (l : List T), sizeL (putS key x done ks l).2 ≤ sizeL l + (if done then 0 else sizeT x)
  | done, k :: ks, t :: l => by
    have ih := putS_size key x (done || (!done && !decide (sl k key))) ks l
    have h3 := manyT_le t 0
    have h4 := manyT_le x 0
    simp only [putS]
    by_cases d : k = key
    · subst d
      have hs : ¬ sl k k := sl_irrefl k
      cases done <;> simp [hs, sizeL] at ih ⊢ <;> omega
    · by_cases c : sl k key <;> cases done <;> simp [c, d, sizeL] at ih ⊢ <;> omega
  | done, [], l => by
    have h := manyL_le l 0
    cases done <;> simp [putS, sizeL] <;> omega
  | done, k :: ks, [] => by cases done <;> simp [putS, sizeL]
end Go.Proofs.Pw
