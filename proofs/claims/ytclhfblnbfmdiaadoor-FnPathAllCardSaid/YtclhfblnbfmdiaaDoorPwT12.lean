/- Trees that are ok: their parts, and rows of some of them. -/
import Derived.Test.YtclhfblnbfmdiaaDoorPwT11
import Derived.Test.YtclhfblnbfmdiaaDoorPwT9
import Derived.Test.YtclhfblnbfmdiaaDoorPwT10
import Derived.Test.YtclhfblnbfmdiaaDoorProg
import Derived.KernelRfl
set_option linter.unusedSimpArgs false
set_option linter.unusedVariables false
set_option linter.unusedSectionVars false
namespace Go.Proofs.Pw
variable [Globs]
mutual
theorem formT_mono {d e : Int} (h : d ≤ e) : ∀ {t : T}, formT t d → formT t e
  | .mk k n s ks l, hf => by
    simp only [formT] at hf ⊢
    obtain ⟨h1, h2, h3, h4, h5, h6, h7, h8, h9, h10, h11, h12⟩ := hf
    exact ⟨by omega, h2, h3, h4, h5, h6, h7, h8, h9, h10, h11, formL_mono (by omega) h12⟩
theorem formL_mono {d e : Int} (h : d ≤ e) : ∀ {l : List T}, formL l d → formL l e
  | [], _ => trivial
  | _ :: _, hf => ⟨formT_mono h hf.1, formL_mono h hf.2⟩
end
mutual
theorem manyT_deep {d e : Int} (h : d ≤ e) : ∀ {t : T}, formT t d → manyT t e = manyT t d
  | .mk k n s ks l, hf => by
    simp only [formT] at hf
    simp only [manyT]
    rw [manyL_deep (d := d) (e := e) h hf.1 hf.2.2.2.2.2.2.2.2.2.2.2]
theorem manyL_deep {d e : Int} (h : d ≤ e) (h1 : 1 ≤ d) : ∀ {l : List T}, formL l (d - 1) → manyL l e = manyL l d
  | [], _ => by simp [manyL]
  | t :: l, hf => by
    simp only [manyL]
    rw [if_pos (by omega), if_pos (by omega), manyT_deep (d := d - 1) (e := e - 1) (by omega) hf.1, manyL_deep h h1 hf.2]
end
theorem formT_list {k n : Int} {s : ByteArray} {ks : List ByteArray} {l : List T} {d : Int} (h : formT (.mk k n s ks l) d) : formL l (d - 1) := by
  simp only [formT] at h
  exact h.2.2.2.2.2.2.2.2.2.2.2
theorem manyL_at {l : List T} {t : T} {d : Int} (hd : 0 < d) (h : t ∈ l) : manyT t (d - 1) ≤ manyL l d := by
  induction l with
  | nil => simp at h
  | cons x l ih =>
    have h1 := manyL_le l d
    have h2 := manyT_le x (d - 1)
    simp only [manyL]
    rw [if_pos hd]
    rcases List.mem_cons.1 h with rfl | h
    · omega
    · have := ih h; omega
theorem okT_elem {k n : Int} {s : ByteArray} {ks : List ByteArray} {l : List T} (h : okT (.mk k n s ks l)) {t : T} (ht : t ∈ l) : okT t := by
  have h1 := formL_mem.1 (formT_list h.1) t ht
  have h2 := manyL_at (d := 6) (by omega) ht
  have h3 := manyT_deep (d := 6 - 1) (e := 6) (by omega) h1
  have h4 := h.2
  simp only [manyT] at h4
  exact ⟨formT_mono (by omega) h1, by omega⟩
theorem toldT_ok {t : T} (h : okT t) : toldT true t = t := by unfold toldT; rw [if_pos ⟨rfl, h⟩]
end Go.Proofs.Pw
/- Rows, each tree once. -/
namespace Go.Proofs.Pw
end Go.Proofs.Pw
/- Rows, grouped by what stands under a key. -/
namespace Go.Proofs.Pw
set_option linter.unusedSectionVars false
variable [Globs]
/-- Where in a list of keys a key is, from i on. -/
def idxS (x : ByteArray) : Nat → List ByteArray → Int
  | _, [] => -1
  | i, y :: r => if x = y then i else idxS x (i + 1) r
theorem idxS_rng {x : ByteArray} : ∀ {l : List ByteArray} {i : Nat}, -1 ≤ idxS x i l ∧ idxS x i l < i + l.length
  | [], i => by simp [idxS]; omega
  | y :: r, i => by
    have := idxS_rng (x := x) (l := r) (i := i + 1)
    simp only [idxS, List.length_cons]
    split <;> omega
open Classical in
/-- What stands under a key. -/
noncomputable def getT (key : ByteArray) (v : T) : T := if v.kind = 6 ∧ 0 ≤ idxS key 0 v.keys then v.list.getD (idxS key 0 v.keys).toNat T.zero else T.zero
def getOk (v : T) : Prop := v.kind = 6 ∨ v.kind = 0
noncomputable instance (v : T) : Decidable (getOk v) := Classical.propDecidable _
theorem okT_keys {k n : Int} {s : ByteArray} {ks : List ByteArray} {l : List T} (h : okT (.mk k n s ks l)) (hk : k = 6) : ks.length = l.length := by
  have := h.1; simp only [formT] at this; exact (this.2.2.2.2.2.2.2.2.2.2.1 hk).1
theorem okT_none {v : T} (h : okT v) (hk : v.kind = 0) : v = T.zero := by
  obtain ⟨k, n, s, ks, l⟩ := v
  have := h.1; simp only [formT] at this
  simp only [T.kind] at hk
  obtain ⟨_, h1, h2, h3, h4, _⟩ := this
  have e1 : n = 0 := by omega
  have e2 : s = ⟨#[]⟩ := by rcases h2 with h | h; omega; exact h
  have e3 : ks = [] := by rcases h3 with h | h; omega; exact h
  have e4 : l = [] := by rcases h4 with h | h; omega; exact h
  subst e1 e2 e3 e4 hk; rfl
theorem getT_mem {key : ByteArray} {v : T} (h : okT v) : getT key v = T.zero ∨ getT key v ∈ v.list := by
  unfold getT
  split
  · rename_i c
    obtain ⟨k, n, s, ks, l⟩ := v
    have hl := okT_keys h c.1
    have hr := idxS_rng (x := key) (l := ks) (i := 0)
    simp only [T.keys, T.list] at c ⊢
    have hlt : (idxS key 0 ks).toNat < l.length := by omega
    right
    rw [List.getD_eq_getElem?_getD, List.getElem?_eq_getElem hlt]; simp
  · exact .inl rfl
theorem okT_zero' : okT T.zero := ⟨by simp [T.zero, formT, formL, okS_nil], by simp [T.zero, manyT, manyL]⟩
theorem getT_ok {key : ByteArray} {v : T} (h : okT v) : okT (getT key v) := by
  rcases getT_mem (key := key) h with e | e
  · rw [e]; exact okT_zero'
  · obtain ⟨k, n, s, ks, l⟩ := v; exact okT_elem h e
theorem fitL_in {B : Int} : ∀ {l : List T}, fitL B l → ∀ t ∈ l, t.fit B
  | _ :: _, h, t, ht => by
    rcases List.mem_cons.1 ht with rfl | ht
    · exact h.1
    · exact fitL_in h.2 t ht
noncomputable def marks (key : ByteArray) (l : List T) : List T := l.map (getT key)
def byOk (v : T) (key : ByteArray) : Prop := rowT v ∧ okS key ∧ ∀ x ∈ v.list, getOk x
noncomputable instance (v : T) (key : ByteArray) : Decidable (byOk v key) := Classical.propDecidable _
open Classical in
/-- Keys and trees, a key put in its place. -/
noncomputable def putS (key : ByteArray) (x : T) : Bool → List ByteArray → List T → List ByteArray × List T
  | done, k :: ks, t :: l =>
    let d := !done && !decide (sl k key)
    let r := putS key x (done || d) ks l
    ((if d then [key] else []) ++ (if k = key then [] else [k]) ++ r.1, (if d then [x] else []) ++ (if k = key then [] else [t]) ++ r.2)
  | done, _, _ => if done then ([], []) else ([key], [x])
theorem putS_len (key : ByteArray) (x : T) : ∀ (done : Bool) (ks : List ByteArray) (l : List T), (putS key x done ks l).1.length ≤ ks.length + (if done then 0 else 1) ∧ (putS key x done ks l).2.length ≤ l.length + (if done then 0 else 1)
  | done, k :: ks, t :: l => by
    have ih := putS_len key x (done || (!done && !decide (sl k key))) ks l
    simp only [putS]
    by_cases d : k = key
    · subst d
      have hs : ¬ sl k k := sl_irrefl k
      cases done <;> simp [hs] at ih ⊢ <;> omega
    · by_cases c : sl k key <;> cases done <;> simp [c, d] at ih ⊢ <;> omega
  | done, [], l => by cases done <;> simp [putS]
  | done, k :: ks, [] => by cases done <;> simp [putS]
theorem putS_mem (key : ByteArray) (x : T) : ∀ (done : Bool) (ks : List ByteArray) (l : List T), (∀ s ∈ (putS key x done ks l).1, s = key ∨ s ∈ ks) ∧ (∀ t ∈ (putS key x done ks l).2, t = x ∨ t ∈ l)
  | done, k :: ks, t :: l => by
    have ih := putS_mem key x (done || (!done && !decide (sl k key))) ks l
    simp only [putS]
    refine ⟨fun s hs => ?_, fun s hs => ?_⟩
    · rcases List.mem_append.1 hs with hs | hs
      · rcases List.mem_append.1 hs with hs | hs
        · split at hs <;> simp at hs; exact .inl hs
        · split at hs <;> simp at hs; exact .inr (by simp [hs])
      · rcases ih.1 s hs with h | h
        · exact .inl h
        · exact .inr (by simp [h])
    · rcases List.mem_append.1 hs with hs | hs
      · rcases List.mem_append.1 hs with hs | hs
        · split at hs <;> simp at hs; exact .inl hs
        · split at hs <;> simp at hs; exact .inr (by simp [hs])
      · rcases ih.2 s hs with h | h
        · exact .inl h
        · exact .inr (by simp [h])
  | done, [], l => by cases done <;> simp [putS]
  | done, k :: ks, [] => by cases done <;> simp [putS]
theorem putS_size (key : ByteArray) (x : T) : ∀ (done : Bool) (ks : List ByteArray) (l : List T), sizeL (putS key x done ks l).2 ≤ sizeL l + (if done then 0 else sizeT x)
  | done, k :: ks, t :: l => by
    have ih := putS_size key x (done || (!done && !decide (sl k key))) ks l
    have h3 := manyT_le t 0
    have h4 := manyT_le x 0
    simp only [putS]
    by_cases d : k = key
    · subst d
      have hs : ¬ sl k k := sl_irrefl k
      cases done <;> simp [hs, sizeL] at ih ⊢ <;> omega
    · by_cases c : sl k key <;> cases done <;> simp [c, d, sizeL] at ih ⊢ <;> omega
  | done, [], l => by
    have h := manyL_le l 0
    cases done <;> simp [putS, sizeL] <;> omega
  | done, k :: ks, [] => by cases done <;> simp [putS, sizeL]
end Go.Proofs.Pw
/- A key's place among keys in order; a tree put there. -/
namespace Go.Proofs.Pw
/-- Keys in order, each once. -/
def Asc (ks : List ByteArray) : Prop := ks.Pairwise sl
open Classical in
/-- How many keys are ahead of it. -/
noncomputable def posS (key : ByteArray) : List ByteArray → Nat
  | [] => 0
  | k :: ks => if sl k key then posS key ks + 1 else 0
theorem posS_le (key : ByteArray) : ∀ ks, posS key ks ≤ ks.length
  | [] => Nat.le_refl _
  | k :: ks => by
    have := posS_le key ks
    simp only [posS]; split <;> simp <;> omega
theorem Asc.tail {k : ByteArray} {ks : List ByteArray} (h : Asc (k :: ks)) : Asc ks := (List.pairwise_cons.1 h).2
theorem Asc.head {k : ByteArray} {ks : List ByteArray} (h : Asc (k :: ks)) : ∀ s ∈ ks, sl k s := (List.pairwise_cons.1 h).1
theorem posS_lt {key : ByteArray} : ∀ {ks : List ByteArray}, Asc ks → ∀ {m : Nat} {k : ByteArray}, ks[m]? = some k → (sl k key ↔ m < posS key ks)
  | [], _, m, k, h => by simp at h
  | x :: ks, ha, m, k, h => by
    simp only [posS]
    cases m with
    | zero =>
      simp at h; subst h
      by_cases c : sl x key
      · simp [c]
      · simp [c]
    | succ m =>
      have hk : ks[m]? = some k := by simpa using h
      by_cases c : sl x key
      · rw [if_pos c, posS_lt ha.tail hk]; omega
      · rw [if_neg c]
        refine ⟨fun hs => absurd (sl_trans (ha.head k (List.mem_of_getElem? hk)) hs) c, fun h => by omega⟩
theorem putS_done (key : ByteArray) (x : T) : ∀ {ks : List ByteArray} {l : List T}, (∀ s ∈ ks, s ≠ key) → ks.length = l.length → putS key x true ks l = (ks, l)
  | [], [], _, _ => by simp [putS]
  | [], _ :: _, _, h => by simp at h
  | _ :: _, [], _, h => by simp at h
  | k :: ks, t :: l, hk, hl => by
    have ih := putS_done key x (ks := ks) (l := l) (fun s hs => hk s (by simp [hs])) (by simpa using hl)
    have := hk k (by simp)
    simp [putS, this, ih]
theorem putS_in {key : ByteArray} {x : T} : ∀ {ks : List ByteArray} {l : List T}, Asc ks → ks.length = l.length → ks[posS key ks]? = some key → putS key x false ks l = (ks, l.set (posS key ks) x)
  | [], _, _, _, h => by simp [posS] at h
  | _ :: _, [], _, h, _ => by simp at h
  | k :: ks, t :: l, ha, hl, hp => by
    by_cases c : sl k key
    · have hne : k ≠ key := fun e => by subst e; exact sl_irrefl _ c
      simp only [posS, if_pos c, List.getElem?_cons_succ] at hp
      have ih := putS_in (x := x) (l := l) ha.tail (by simpa using hl) hp
      simp [putS, posS, c, hne, ih]
    · simp only [posS, if_neg c, List.getElem?_cons_zero, Option.some.injEq] at hp
      subst hp
      have := putS_done k x (ks := ks) (l := l) (fun s hs e => by have := ha.head s hs; rw [e] at this; exact sl_irrefl _ this) (by simpa using hl)
      simp [putS, posS, c, this]
theorem putS_new {key : ByteArray} {x : T} : ∀ {ks : List ByteArray} {l : List T}, Asc ks → ks.length = l.length → ks[posS key ks]? ≠ some key → putS key x false ks l = (ks.take (posS key ks) ++ key :: ks.drop (posS key ks), l.take (posS key ks) ++ x :: l.drop (posS key ks))
  | [], [], _, _, _ => by simp [putS, posS]
  | [], _ :: _, _, h, _ => by simp at h
  | _ :: _, [], _, h, _ => by simp at h
  | k :: ks, t :: l, ha, hl, hp => by
    by_cases c : sl k key
    · have hne : k ≠ key := fun e => by subst e; exact sl_irrefl _ c
      simp only [posS, if_pos c, List.getElem?_cons_succ] at hp
      have ih := putS_new (x := x) (l := l) ha.tail (by simpa using hl) hp
      simp [putS, posS, c, hne, ih]
    · simp only [posS, if_neg c, List.getElem?_cons_zero, ne_eq, Option.some.injEq] at hp
      have h1 : sl key k := (sl_tri k key).1 (fun h => h.elim c hp)
      have := putS_done key x (ks := ks) (l := l) (fun s hs e => by have := sl_trans h1 (ha.head s hs); rw [e] at this; exact sl_irrefl _ this) (by simpa using hl)
      simp [putS, posS, c, hp, this]
theorem okKeys_asc {ks : List ByteArray} (h : okKeys ks) : Asc ks := by
  refine List.pairwise_iff_getElem.2 ?_
  intro i j hi hj hij
  have key : ∀ n, ∀ (hn : i + n + 1 < ks.length), sl ks[i] (ks[i + n + 1]) := by
    intro n
    induction n with
    | zero => intro hn; exact h.2 i _ _ hn (List.getElem?_eq_getElem _) (List.getElem?_eq_getElem _)
    | succ n ih =>
      intro hn
      have h1 := ih (by omega)
      have h2 := h.2 (i + n + 1) _ _ hn (List.getElem?_eq_getElem (by omega)) (List.getElem?_eq_getElem hn)
      exact sl_trans h1 h2
  have := key (j - i - 1) (by omega)
  simpa [show i + (j - i - 1) + 1 = j by omega] using this
/-- Put into keys in order, they are in order. -/
theorem putS_asc {key : ByteArray} {x : T} {ks : List ByteArray} {l : List T} (ha : Asc ks) (hl : ks.length = l.length) : Asc (putS key x false ks l).1 := by
  by_cases c : ks[posS key ks]? = some key
  · rw [putS_in ha hl c]; exact ha
  · rw [putS_new ha hl c]
    have h1 : ∀ s ∈ ks.take (posS key ks), sl s key := fun s hs => by
      obtain ⟨i, hi⟩ := List.getElem?_of_mem hs
      rw [List.getElem?_take] at hi
      split at hi
      · rename_i hlt; exact (posS_lt ha hi).2 hlt
      · cases hi
    have h2 : ∀ s ∈ ks.drop (posS key ks), sl key s := fun s hs => by
      obtain ⟨i, hi⟩ := List.getElem?_of_mem hs
      rw [List.getElem?_drop] at hi
      have hn : ¬ sl s key := fun h => by have := (posS_lt ha hi).1 h; omega
      refine (sl_tri s key).1 (fun h => h.elim hn (fun e => ?_))
      subst e
      cases i with
      | zero => exact c hi
      | succ i =>
        have hlt : posS s ks < ks.length := by have := (List.getElem?_eq_some_iff.1 hi).1; omega
        have h3 : ¬ sl (ks[posS s ks]) s := fun h => by have := (posS_lt ha (List.getElem?_eq_getElem hlt)).1 h; omega
        obtain ⟨hlt2, he⟩ := List.getElem?_eq_some_iff.1 hi
        have h4 := (List.pairwise_iff_getElem.1 ha) (posS s ks) (posS s ks + (i + 1)) hlt hlt2 (by omega)
        rw [he] at h4
        exact h3 h4
    unfold Asc at ha ⊢
    rw [← List.take_append_drop (posS key ks) ks, List.pairwise_append] at ha
    rw [List.pairwise_append]
    exact ⟨ha.1, List.pairwise_cons.2 ⟨h2, ha.2.1⟩, fun a h3 b h4 => by
      rcases List.mem_cons.1 h4 with rfl | h4
      · exact h1 a h3
      · exact ha.2.2 a h3 b h4⟩
theorem putS_len2 {key : ByteArray} {x : T} {ks : List ByteArray} {l : List T} (ha : Asc ks) (hl : ks.length = l.length) : (putS key x false ks l).1.length = (putS key x false ks l).2.length := by
  by_cases c : ks[posS key ks]? = some key
  · rw [putS_in ha hl c]; simpa using hl
  · rw [putS_new ha hl c]; simp; omega
end Go.Proofs.Pw
/- A tree that is ok is small. -/
namespace Go.Proofs.Pw
mutual
theorem form_many : ∀ (t : T) (d : Int), formT t d → manyT t d = sizeT t
  | .mk k n s ks l, d, h => by
    simp only [formT] at h
    simp only [manyT, sizeT]
    rw [formL_many l d h.1 h.2.2.2.2.2.2.2.2.2.2.2]
theorem formL_many : ∀ (l : List T) (d : Int), 1 ≤ d → formL l (d - 1) → manyL l d = sizeL l
  | [], d, _, _ => by simp [manyL, sizeL]
  | t :: l, d, hd, h => by
    simp only [formL] at h
    simp only [manyL, sizeL]
    rw [if_pos (by omega), form_many t (d - 1) h.1, formL_many l d hd h.2]
end
theorem okT_size {t : T} (h : okT t) : sizeT t ≤ 60 := by rw [← form_many t 6 h.1]; exact h.2
theorem sizeL_len : ∀ l : List T, (l.length : Int) ≤ sizeL l
  | [] => by simp [sizeL]
  | t :: l => by
    have h1 := sizeL_len l
    have h2 : 1 ≤ sizeT t := by obtain ⟨k, n, s, ks, r⟩ := t; have := manyL_le r 0; simp only [sizeT]; omega
    simp only [sizeL, List.length_cons]; omega
theorem sizeT_pos (t : T) : 1 ≤ sizeT t := by obtain ⟨k, n, s, ks, r⟩ := t; have := manyL_le r 0; simp only [sizeT]; omega
theorem sizeL_nn (l : List T) : 0 ≤ sizeL l := by have := manyL_le l 0; omega
mutual
theorem form_fit : ∀ (t : T) (d : Int), formT t d → sizeT t ≤ 60 → t.fit 60
  | .mk k n s ks l, d, h, hs => by
    simp only [formT] at h
    obtain ⟨h1, h2, h3, h4, h5, h6, h7, h8, h9, h10, h11, h12⟩ := h
    simp only [sizeT] at hs
    have hl := sizeL_len l
    have h13 := h10.2
    refine ⟨by unfold i64; omega, by unfold i64; omega, by unfold lenB; omega, ⟨?_, ?_⟩, by unfold lenB; omega, formL_fit l (d - 1) h12 (by omega)⟩
    · rcases h4 with rfl | rfl
      · have := (h11 rfl).1
        unfold lenB; omega
      · simp [lenB]
    · intro x hx
      rcases h4 with rfl | rfl
      · obtain ⟨i, hi⟩ := List.getElem?_of_mem hx
        have := (okKeys_at (h11 rfl).2 hi).2
        unfold lenB; omega
      · simp at hx
theorem formL_fit : ∀ (l : List T) (d : Int), formL l d → sizeL l ≤ 59 → fitL 60 l
  | [], _, _, _ => trivial
  | t :: l, d, h, hs => by
    simp only [formL] at h
    simp only [sizeL] at hs
    have h1 := sizeT_pos t
    have h2 := sizeL_nn l
    exact ⟨form_fit t d h.1 (by omega), formL_fit l d h.2 (by omega)⟩
end
theorem okT_fit {t : T} (h : okT t) : t.fit 60 := form_fit t 6 h.1 (okT_size h)
end Go.Proofs.Pw
/- Ways: what they are, what lies at their end, and what is put there. -/
namespace Go.Proofs.Pw
def stpOk (s : Stp) : Prop := if s.map = true then okS s.key ∧ s.at' = 0 else s.key = ⟨#[]⟩ ∧ -60 ≤ s.at' ∧ s.at' ≤ 59
noncomputable instance (s : Stp) : Decidable (stpOk s) := Classical.propDecidable _
def wayOk (p : List Stp) : Prop := (∀ s ∈ p, stpOk s) ∧ p.length ≤ 6
noncomputable instance (p : List Stp) : Decidable (wayOk p) := Classical.propDecidable _
/-- A place of a row of n, counted from the end on if it lies below 0; -1 if there is none. -/
def placeI (n at' : Int) : Int := if 0 ≤ (if at' < 0 then at' + n else at') ∧ (if at' < 0 then at' + n else at') ≤ n - 1 then (if at' < 0 then at' + n else at') else -1
noncomputable def atT (at' : Int) (v : T) : T := if v.kind = 5 ∧ 0 ≤ placeI v.list.length at' then v.list.getD (placeI v.list.length at').toNat T.zero else T.zero
def atOk (v : T) : Prop := v.kind = 5 ∨ v.kind = 0
noncomputable instance (v : T) : Decidable (atOk v) := Classical.propDecidable _
noncomputable def oneT (s : Stp) (v : T) : T := if s.map = true then getT s.key v else atT s.at' v
def canGo (s : Stp) (v : T) : Prop := if s.map = true then getOk v else atOk v
noncomputable instance (s : Stp) (v : T) : Decidable (canGo s v) := Classical.propDecidable _
theorem placeI_lt {n at' : Int} (h : 0 ≤ placeI n at') : placeI n at' < n := by unfold placeI at *; split at h <;> (try split) <;> omega
def stpFit (s : Stp) : Prop := (s.key.size : Int) ≤ 140737488355328 ∧ -9223372036854775808 ≤ s.at' ∧ s.at' ≤ 9223372036854775807
def wayFit (p : List Stp) : Prop := (p.length : Int) ≤ 140737488355328 ∧ ∀ s ∈ p, stpFit s
theorem Stp.enc_eq {a b : Stp} : a.enc = b.enc ↔ a = b := ⟨fun h => by
  obtain ⟨m, k, n⟩ := a
  obtain ⟨m', k', n'⟩ := b
  simp only [Stp.enc, List.cons.injEq, C.bool.injEq, C.str.injEq, C.int.injEq, true_and, and_true] at h
  obtain ⟨rfl, rfl, rfl⟩ := h
  rfl, fun h => h ▸ rfl⟩
theorem Stp.len3 (s : Stp) : s.enc.length = 3 := rfl
theorem Stp.take3 (s : Stp) : s.enc.take 3 = s.enc := rfl
theorem Stp.takeQ (s : Stp) : (s.enc.map Q.c).take 3 = s.enc.map Q.c := rfl
attribute [go_sem] Stp.take3 Stp.takeQ Stp.len3
theorem wayFit_at {p : List Stp} (h : wayFit p) {i : Nat} {s : Stp} (hs : p[i]? = some s) : stpFit s := h.2 s (List.mem_of_getElem? hs)
end Go.Proofs.Pw
/- Whether two trees are the same: the specification's function and the program's. -/
set_option linter.unusedSimpArgs false
set_option maxRecDepth 20000
namespace Go.Proofs.Pw
set_option linter.unusedSectionVars false
variable [Globs]
def x_EqualS : X := (.seq (.reg [⟨some 4, none, .mv (.k (.c (.bool false)))⟩] none [0, 1]) (.seq (.seq (.reg [⟨some 6, none, .mv (.t 0)⟩, ⟨some 7, none, .len (.t 6) false⟩, ⟨some 8, none, .mv (.t 1)⟩, ⟨some 9, none, .len (.t 8) false⟩, ⟨some 10, none, .bin false .neq (.t 7) (.t 9)⟩] none [0, 1, 10]) (.cond (.t 10) (.seq (.reg [⟨some 4, none, .mv (.k (.c (.bool false)))⟩] none [4]) .ret) .skip)) (.seq (.seq (.reg [⟨some 11, none, .mv (.t 0)⟩, ⟨some 12, none, .len (.t 11) false⟩, ⟨some 13, none, .mv (.k (.c (.int .i64 0)))⟩] none [0, 1, 12, 13]) (.block 0 (.loop (.seq (.reg [⟨some 14, none, .bin false .lss (.t 13) (.t 12)⟩] none [0, 1, 12, 13, 14]) (.seq (.cond (.t 14) .skip (.exit 0)) (.seq (.block 1 (.seq (.reg [⟨some 15, none, .mv (.t 13)⟩, ⟨some 5, none, .mv (.t 15)⟩] none [0, 1, 5, 12, 13]) (.seq (.reg [⟨some 16, none, .mv (.t 0)⟩, ⟨some 17, none, .mv (.t 5)⟩, ⟨some 18, none, .ia (.t 16) (.t 17) 1⟩, ⟨some 19, none, .load (.t 18) none⟩, ⟨some 20, none, .mv (.t 1)⟩, ⟨some 21, none, .mv (.t 5)⟩, ⟨some 22, none, .ia (.t 20) (.t 21) 1⟩, ⟨some 23, none, .load (.t 22) none⟩, ⟨some 24, none, .bin false .neq (.t 19) (.t 23)⟩] (some 8) [0, 1, 12, 13, 24]) (.cond (.t 24) (.seq (.reg [⟨some 4, none, .mv (.k (.c (.bool false)))⟩] none [4]) .ret) .skip)))) (.reg [⟨some 25, none, .bin false .add (.t 13) (.k (.c (.int .i64 1)))⟩, ⟨some 13, none, .mv (.t 25)⟩] none [0, 1, 12, 13]))))))) (.seq (.reg [⟨some 4, none, .mv (.k (.c (.bool true)))⟩] none [4]) .ret))))
theorem chk_EqualS : chkX Go.Proofs.Tryd.prog 26 (Go.Proofs.Tryd.f27.body.getD .skip) x_EqualS = true := by kernel_rfl
theorem rs_EqualS : okRs Go.Proofs.Tryd.prog Go.Proofs.Tryd.f27.results.toList [.tmp 4] = true := by kernel_rfl
theorem call_EqualS : okCallee Go.Proofs.Tryd.prog 27 = true := by kernel_rfl
def x_EqualF : X := (.seq (.reg [⟨some 6, none, .mv (.k (.c (.bool false)))⟩] none [0, 1, 2]) (.seq (.seq (.reg [⟨some 10, none, .mv (.t 0)⟩, ⟨some 11, none, .len (.t 10) false⟩, ⟨some 12, none, .mv (.t 1)⟩, ⟨some 13, none, .len (.t 12) false⟩, ⟨some 14, none, .bin false .neq (.t 11) (.t 13)⟩] none [0, 1, 2, 14]) (.cond (.t 14) (.seq (.reg [⟨some 6, none, .mv (.k (.c (.bool false)))⟩] none [6]) .ret) .skip)) (.seq (.seq (.reg [⟨some 15, none, .mv (.t 0)⟩, ⟨some 16, none, .len (.t 15) false⟩, ⟨some 17, none, .mv (.k (.c (.int .i64 0)))⟩] none [1, 2, 15, 16, 17]) (.block 0 (.loop (.seq (.reg [⟨some 18, none, .bin false .lss (.t 17) (.t 16)⟩] none [1, 2, 15, 16, 17, 18]) (.seq (.cond (.t 18) .skip (.exit 0)) (.seq (.block 1 (.seq (.reg [⟨some 19, none, .mv (.t 17)⟩, ⟨some 20, none, .ia (.t 15) (.t 17) 5⟩, ⟨some 21, none, .load (.t 20) (some 5)⟩, ⟨some 8, none, .alloc [(.c (.int .i64 0)), (.c (.int .i64 0)), (.c (.str ⟨#[]⟩)), (.z 1), (.z 5)]⟩, ⟨some 7, none, .mv (.t 19)⟩, ⟨none, none, .st (.t 8) (.t 21) (some 5)⟩] none [1, 2, 7, 8, 15, 16, 17]) (.seq (.reg [⟨some 22, none, .mv (.t 1)⟩, ⟨some 23, none, .mv (.t 7)⟩, ⟨some 24, none, .ia (.t 22) (.t 23) 5⟩, ⟨some 25, none, .load (.t 24) (some 5)⟩, ⟨some 9, none, .alloc [(.c (.int .i64 0)), (.c (.int .i64 0)), (.c (.str ⟨#[]⟩)), (.z 1), (.z 5)]⟩, ⟨none, none, .st (.t 9) (.t 25) (some 5)⟩] none [1, 2, 8, 9, 15, 16, 17]) (.seq (.reg [⟨some 26, none, .mv (.t 2)⟩, ⟨some 27, none, .load (.t 8) (some 5)⟩, ⟨some 28, none, .load (.t 9) (some 5)⟩, ⟨some 29, none, .calli (.t 26) [(.t 27), (.t 28)]⟩, ⟨some 30, none, .not (.t 29)⟩] none [1, 2, 15, 16, 17, 30]) (.cond (.t 30) (.seq (.reg [⟨some 6, none, .mv (.k (.c (.bool false)))⟩] none [6]) .ret) .skip))))) (.reg [⟨some 31, none, .bin false .add (.t 17) (.k (.c (.int .i64 1)))⟩, ⟨some 17, none, .mv (.t 31)⟩] none [1, 2, 15, 16, 17]))))))) (.seq (.reg [⟨some 6, none, .mv (.k (.c (.bool true)))⟩] none [6]) .ret))))
theorem chk_EqualF : chkX Go.Proofs.Tryd.prog 32 (Go.Proofs.Tryd.f28.body.getD .skip) x_EqualF = true := by kernel_rfl
theorem rs_EqualF : okRs Go.Proofs.Tryd.prog Go.Proofs.Tryd.f28.results.toList [.tmp 6] = true := by kernel_rfl
theorem call_EqualF : okCallee Go.Proofs.Tryd.prog 28 = true := by kernel_rfl
def x_ValSameI : X := (.seq (.reg [⟨some 2, none, .box (.t 0) (some 5)⟩, ⟨some 3, none, .box (.t 1) (some 5)⟩, ⟨some 4, none, .mv (.k (.c (.bool false)))⟩] none [2, 3]) (.seq (.reg [⟨some 5, none, .fa (.t 2) 0⟩, ⟨some 6, none, .load (.t 5) none⟩, ⟨some 7, none, .fa (.t 3) 0⟩, ⟨some 8, none, .load (.t 7) none⟩, ⟨some 9, none, .bin false .eql (.t 6) (.t 8)⟩, ⟨some 10, none, .mv (.t 9)⟩, ⟨some 11, some (10, true), .fa (.t 2) 1⟩, ⟨some 12, some (10, true), .load (.t 11) none⟩, ⟨some 13, some (10, true), .fa (.t 3) 1⟩, ⟨some 14, some (10, true), .load (.t 13) none⟩, ⟨some 15, some (10, true), .bin false .eql (.t 12) (.t 14)⟩, ⟨some 16, none, .pick (.t 10) (.t 15) (.k (.c (.bool false)))⟩, ⟨some 17, none, .mv (.t 16)⟩, ⟨some 18, some (17, true), .fa (.t 2) 2⟩, ⟨some 19, some (17, true), .load (.t 18) none⟩, ⟨some 20, some (17, true), .fa (.t 3) 2⟩, ⟨some 21, some (17, true), .load (.t 20) none⟩, ⟨some 22, some (17, true), .bin false .eql (.t 19) (.t 21)⟩, ⟨some 23, none, .pick (.t 17) (.t 22) (.k (.c (.bool false)))⟩, ⟨some 24, none, .mv (.t 23)⟩, ⟨some 25, some (24, true), .fa (.t 2) 3⟩, ⟨some 26, some (24, true), .load (.t 25) none⟩, ⟨some 27, some (24, true), .fa (.t 3) 3⟩, ⟨some 28, some (24, true), .load (.t 27) none⟩, ⟨some 29, some (24, true), .call 27 [(.t 26), (.t 28)]⟩, ⟨some 30, none, .pick (.t 24) (.t 29) (.k (.c (.bool false)))⟩, ⟨some 31, none, .mv (.t 30)⟩, ⟨some 32, some (31, true), .fa (.t 2) 4⟩, ⟨some 33, some (31, true), .load (.t 32) none⟩, ⟨some 34, some (31, true), .fa (.t 3) 4⟩, ⟨some 35, some (31, true), .load (.t 34) none⟩, ⟨some 36, some (31, true), .call 28 [(.t 33), (.t 35), (.k (.c (.fn 12)))]⟩, ⟨some 37, none, .pick (.t 31) (.t 36) (.k (.c (.bool false)))⟩, ⟨some 4, none, .mv (.t 37)⟩] none [4]) .ret))
theorem chk_ValSameI : chkX Go.Proofs.Tryd.prog 38 (Go.Proofs.Tryd.f12.body.getD .skip) x_ValSameI = true := by kernel_rfl
theorem rs_ValSameI : okRs Go.Proofs.Tryd.prog Go.Proofs.Tryd.f12.results.toList [.tmp 4] = true := by kernel_rfl
theorem call_ValSameI : okCallee Go.Proofs.Tryd.prog 12 = true := by kernel_rfl
noncomputable def spEqualS  : Spec := Spec.of (ι := (List ByteArray) × (List ByteArray)) [false, false] (fun i => [.d (.one (.row 1 (strs i.1))), .d (.one (.row 1 (strs i.2)))]) (fun i => lenB 140737488355328 i.1.length ∧ lenB 140737488355328 i.2.length) (fun i => [.d (.one (.bool (decide (i.1 = i.2))))]) (fun _ => [.gone, .gone])
theorem spEqualS_inj : ∀ i j : (List ByteArray) × (List ByteArray), (fun (i : (List ByteArray) × (List ByteArray)) => ([.d (.one (.row 1 (strs i.1))), .d (.one (.row 1 (strs i.2)))] : List AV)) i = (fun (i : (List ByteArray) × (List ByteArray)) => ([.d (.one (.row 1 (strs i.1))), .d (.one (.row 1 (strs i.2)))] : List AV)) j → i = j := by
  rintro ⟨a, b⟩ ⟨a', b'⟩ h
  simp only [Prod.mk.injEq]
  simpa [strs_eq, T.enc_eq, encL_eq, F.enc_eq, encF_eq, Tk.enc_eq, encTk_eq, Gn.enc_eq, ints_eq] using h
theorem spEqualS_md  : (spEqualS).md = [false, false] := rfl
theorem spEqualS_pre  (a : List ByteArray) (b : List ByteArray) : (spEqualS).pre [.d (.one (.row 1 (strs a))), .d (.one (.row 1 (strs b)))] = (lenB 140737488355328 a.length ∧ lenB 140737488355328 b.length) := Spec.of_pre' spEqualS_inj (a, b)
theorem spEqualS_alts  : (spEqualS).alts = none := rfl
theorem spEqualS_res  (a : List ByteArray) (b : List ByteArray) : (spEqualS).res [.d (.one (.row 1 (strs a))), .d (.one (.row 1 (strs b)))] = [.d (.one (.bool (decide (a = b))))] := Spec.of_res spEqualS_inj (a, b)
theorem spEqualS_out  (a : List ByteArray) (b : List ByteArray) : (spEqualS).out [.d (.one (.row 1 (strs a))), .d (.one (.row 1 (strs b)))] = [.gone, .gone] := Spec.of_out spEqualS_inj (a, b)
theorem equalS_sound : Sound Go.Proofs.Tryd.prog 27 spEqualS := by
  refine sound_fam GOK.nil Go.Proofs.Tryd.func27 (c := Go.Proofs.Tryd.f27.body.getD .skip) rfl (n := 26) rfl chk_EqualS rs_EqualS (fun _ => by simp) ?_ ?_
  · exact spEqualS_inj
  · rintro ⟨a, b⟩ h1
    simp only [lenB] at h1
    by_cases hl : a.length = b.length
    · have b1 : ((a.length : Int) = (b.length : Int)) = True := by simp [hl]
      simp only [x_EqualS, rg, go_sem, seval, b1]
      refine pw_loop (ι := Nat) (fun i => a.length - i) (fun i => i ≤ a.length ∧ a.take i = b.take i)
        (fun i => ⟨[(0, .q (.c (.row 1 (strs a)))), (1, .q (.c (.row 1 (strs b)))), (12, .q (.c (.int .i64 a.length))), (13, .q (.c (.int .i64 i)))], [], []⟩) 0 ⟨Nat.zero_le _, rfl⟩ (Le.refl _) ?_
      rintro i ⟨hi, heq⟩
      rcases Nat.lt_or_ge i a.length with hlt | hge
      · obtain ⟨s, hs, _, hmem⟩ := drop_at hlt
        obtain ⟨s', hs', _, hmem'⟩ := drop_at (l := b) (i := i) (by omega)
        have a1 := strs_at hs
        have a1' := strs_at hs'
        have a2 : ((i : Int) < (a.length : Int)) = True := by simp; omega
        have a3 : ((i : Int) < (b.length : Int)) = True := by simp; omega
        by_cases hc : s = s'
        · have c1 : (s = s') = True := by simp [hc]
          simp only [go_sem, seval, rg, a1, a1', a2, a3, c1]
          repeat' (first | with_reducible assumption | with_reducible refine And.intro ?_ ?_ | intro _)
          all_goals first | omega | skip
          exact ⟨i + 1, ⟨by omega, take_at hs (hc ▸ hs') heq⟩, by omega, Le.refl _⟩
        · have c1 : (s = s') = False := by simp [hc]
          simp only [go_sem, seval, rg, a1, a1', a2, a3, c1]
          repeat' (first | with_reducible assumption | with_reducible refine And.intro ?_ ?_ | intro _)
          all_goals first | omega | skip
          rename_i h; exact ne_at hs hs' hc h
      · have a2 : ((i : Int) < (a.length : Int)) = False := by simp; omega
        have hie : i = a.length := by omega
        subst hie
        simp only [go_sem, seval, a2]
        exact take_all hl heq
    · have b1 : ((a.length : Int) = (b.length : Int)) = False := by simp; omega
      simp only [x_EqualS, rg, go_sem, seval, b1]
      exact fun e => hl (by rw [e])
noncomputable def spSameI (k:Nat) : Spec := Spec.of (ι := T × T) [false, false] (fun i => [.d (.agg i.1.enc), .d (.agg i.2.enc)]) (fun i => (i.1.fit 140737488355328 ∧ i.2.fit 140737488355328) ∧ SizeOf.sizeOf i.1 < k) (fun i => [.d (.one (.bool (decide (i.1 = i.2))))]) (fun _ => [.gone, .gone])
theorem spSameI_inj : ∀ i j : T × T, (fun (i : T × T) => ([.d (.agg i.1.enc), .d (.agg i.2.enc)] : List AV)) i = (fun (i : T × T) => ([.d (.agg i.1.enc), .d (.agg i.2.enc)] : List AV)) j → i = j := by
  rintro ⟨a, b⟩ ⟨a', b'⟩ h
  simp only [Prod.mk.injEq]
  simpa [strs_eq, T.enc_eq, encL_eq, F.enc_eq, encF_eq, Tk.enc_eq, encTk_eq, Gn.enc_eq, ints_eq] using h
theorem spSameI_md (k:Nat) : (spSameI k).md = [false, false] := rfl
theorem spSameI_pre (k:Nat) (a : T) (b : T) : (spSameI k).pre [.d (.agg a.enc), .d (.agg b.enc)] = ((a.fit 140737488355328 ∧ b.fit 140737488355328) ∧ SizeOf.sizeOf a < k) := Spec.of_pre' spSameI_inj (a, b)
theorem spSameI_alts (k:Nat) : (spSameI k).alts = none := rfl
theorem spSameI_res (k:Nat) (a : T) (b : T) : (spSameI k).res [.d (.agg a.enc), .d (.agg b.enc)] = [.d (.one (.bool (decide (a = b))))] := Spec.of_res spSameI_inj (a, b)
theorem spSameI_out (k:Nat) (a : T) (b : T) : (spSameI k).out [.d (.agg a.enc), .d (.agg b.enc)] = [.gone, .gone] := Spec.of_out spSameI_inj (a, b)
noncomputable def spEqualF (k:Nat) : Spec := Spec.of (ι := (List T) × (List T)) [false, false, false] (fun i => [.d (.one (.row 5 (encL i.1))), .d (.one (.row 5 (encL i.2))), .d (.one (.fn 12))]) (fun i => (lenB 140737488355328 i.1.length ∧ fitL 140737488355328 i.1 ∧ lenB 140737488355328 i.2.length ∧ fitL 140737488355328 i.2) ∧ SizeOf.sizeOf i.1 < k) (fun i => [.d (.one (.bool (decide (i.1 = i.2))))]) (fun _ => [.gone, .gone, .gone])
theorem spEqualF_inj : ∀ i j : (List T) × (List T), (fun (i : (List T) × (List T)) => ([.d (.one (.row 5 (encL i.1))), .d (.one (.row 5 (encL i.2))), .d (.one (.fn 12))] : List AV)) i = (fun (i : (List T) × (List T)) => ([.d (.one (.row 5 (encL i.1))), .d (.one (.row 5 (encL i.2))), .d (.one (.fn 12))] : List AV)) j → i = j := by
  rintro ⟨a, b⟩ ⟨a', b'⟩ h
  simp only [Prod.mk.injEq]
  simpa [strs_eq, T.enc_eq, encL_eq, F.enc_eq, encF_eq, Tk.enc_eq, encTk_eq, Gn.enc_eq, ints_eq] using h
theorem spEqualF_md (k:Nat) : (spEqualF k).md = [false, false, false] := rfl
theorem spEqualF_pre (k:Nat) (a : List T) (b : List T) : (spEqualF k).pre [.d (.one (.row 5 (encL a))), .d (.one (.row 5 (encL b))), .d (.one (.fn 12))] = ((lenB 140737488355328 a.length ∧ fitL 140737488355328 a ∧ lenB 140737488355328 b.length ∧ fitL 140737488355328 b) ∧ SizeOf.sizeOf a < k) := Spec.of_pre' spEqualF_inj (a, b)
theorem spEqualF_alts (k:Nat) : (spEqualF k).alts = none := rfl
theorem spEqualF_res (k:Nat) (a : List T) (b : List T) : (spEqualF k).res [.d (.one (.row 5 (encL a))), .d (.one (.row 5 (encL b))), .d (.one (.fn 12))] = [.d (.one (.bool (decide (a = b))))] := Spec.of_res spEqualF_inj (a, b)
theorem spEqualF_out (k:Nat) (a : List T) (b : List T) : (spEqualF k).out [.d (.one (.row 5 (encL a))), .d (.one (.row 5 (encL b))), .d (.one (.fn 12))] = [.gone, .gone, .gone] := Spec.of_out spEqualF_inj (a, b)
theorem sameI_sound (k : Nat) (hS : Sound Go.Proofs.Tryd.prog 28 (spEqualF k)) : Sound Go.Proofs.Tryd.prog 12 (spSameI (k + 1)) := by
  refine sound_fam (GOK.cons (l := [(28, spEqualF k)]) call_EqualS equalS_sound (GOK.cons call_EqualF hS GOK.nil)) Go.Proofs.Tryd.func12 (c := Go.Proofs.Tryd.f12.body.getD .skip) rfl (n := 38) rfl chk_ValSameI rs_ValSameI (fun _ => by simp) ?_ ?_
  · exact spSameI_inj
  · rintro ⟨a, b⟩ ⟨⟨h1, h2⟩, h4⟩
    obtain ⟨kk, n, s, ks, l⟩ := a
    obtain ⟨kk', n', s', ks', l'⟩ := b
    simp only [T.fit, strsFit] at h1 h2
    obtain ⟨_, _, f1, ⟨f2, f2'⟩, f3, f4⟩ := h1
    obtain ⟨_, _, g1, ⟨g2, g2'⟩, g3, g4⟩ := h2
    have e3 : SizeOf.sizeOf l < k := by have e : SizeOf.sizeOf (T.mk kk n s ks l) < k + 1 := h4
                                        rw [T.mk.sizeOf_spec] at e; omega
    clear h4
    simp only [x_ValSameI, T.enc, go_sem, seval, rg, T.mk.injEq, spEqualS_md, spEqualS_pre, spEqualS_alts, spEqualS_res, spEqualS_out, spEqualF_md, spEqualF_pre, spEqualF_alts, spEqualF_res, spEqualF_out]
    repeat' (first | with_reducible assumption | with_reducible refine And.intro ?_ ?_ | intro _)
    all_goals first | omega | (grind; done) | skip
theorem equalF_sound (k : Nat) (hS : Sound Go.Proofs.Tryd.prog 12 (spSameI k)) : Sound Go.Proofs.Tryd.prog 28 (spEqualF (k + 1)) := by
  refine sound_fam (GOK.cons call_ValSameI hS GOK.nil) Go.Proofs.Tryd.func28 (c := Go.Proofs.Tryd.f28.body.getD .skip) rfl (n := 32) rfl chk_EqualF rs_EqualF (fun _ => by simp) ?_ ?_
  · exact spEqualF_inj
  · rintro ⟨a, b⟩ ⟨h1, h3⟩
    simp only at h3
    simp only [lenB] at h1
    have fa := fitL_mem h1.2.1
    have fb := fitL_mem h1.2.2.2
    by_cases hl : a.length = b.length
    · have b1 : ((a.length : Int) = (b.length : Int)) = True := by simp [hl]
      simp only [x_EqualF, rg, go_sem, seval, b1]
      refine pw_loop (ι := Nat) (fun i => a.length - i) (fun i => i ≤ a.length ∧ a.take i = b.take i)
        (fun i => ⟨[(1, .q (.c (.row 5 (encL b)))), (2, .q (.c (.fn 12))), (15, .q (.c (.row 5 (encL a)))), (16, .q (.c (.int .i64 a.length))), (17, .q (.c (.int .i64 i)))], [], []⟩) 0 ⟨Nat.zero_le _, rfl⟩ (Le.refl _) ?_
      rintro i ⟨hi, heq⟩
      rcases Nat.lt_or_ge i a.length with hlt | hge
      · obtain ⟨s, hs, _, hmem⟩ := drop_at hlt
        obtain ⟨s', hs', _, hmem'⟩ := drop_at (l := b) (i := i) (by omega)
        have a1 := encL_at hs
        have a1' := encL_at hs'
        have a2 : ((i : Int) < (a.length : Int)) = True := by simp; omega
        have a3 : ((i : Int) < (b.length : Int)) = True := by simp; omega
        have a4 := fa s hmem
        have a5 := fb s' hmem'
        have a6 := T.enc_len s
        have a6' := T.enc_len s'
        have a8 := size_mem hmem
        by_cases hc : s = s'
        · have c1 : (s = s') = True := by simp [hc]
          simp only [go_sem, seval, rg, a1, a1', a2, a3, a6, a6', c1, spSameI_md, spSameI_pre, spSameI_alts, spSameI_res, spSameI_out]
          repeat' (first | with_reducible assumption | with_reducible refine And.intro ?_ ?_ | intro _)
          all_goals first | omega | skip
          exact ⟨i + 1, ⟨by omega, take_at hs (hc ▸ hs') heq⟩, by omega, Le.sub (fun _ h => h) (fun _ h => by cases h) (fun _ h => h)⟩
        · have c1 : (s = s') = False := by simp [hc]
          simp only [go_sem, seval, rg, a1, a1', a2, a3, a6, a6', c1, spSameI_md, spSameI_pre, spSameI_alts, spSameI_res, spSameI_out]
          repeat' (first | with_reducible assumption | with_reducible refine And.intro ?_ ?_ | intro _)
          all_goals first | omega | skip
          rename_i h; exact ne_at hs hs' hc h
      · have a2 : ((i : Int) < (a.length : Int)) = False := by simp; omega
        have hie : i = a.length := by omega
        subst hie
        simp only [go_sem, seval, a2]
        exact take_all hl heq
    · have b1 : ((a.length : Int) = (b.length : Int)) = False := by simp; omega
      simp only [x_EqualF, rg, go_sem, seval, b1]
      exact fun e => hl (by rw [e])
theorem sameI_all (k : Nat) : Sound Go.Proofs.Tryd.prog 12 (spSameI k) ∧ Sound Go.Proofs.Tryd.prog 28 (spEqualF k) := by
  induction k with
  | zero => exact ⟨Sound.none, Sound.none⟩
  | succ k ih => exact ⟨sameI_sound k ih.2, equalF_sound k ih.1⟩
noncomputable def spSameIV  : Spec := Spec.of (ι := T × T) [false, false] (fun i => [.d (.agg i.1.enc), .d (.agg i.2.enc)]) (fun i => i.1.fit 140737488355328 ∧ i.2.fit 140737488355328) (fun i => [.d (.one (.bool (decide (i.1 = i.2))))]) (fun _ => [.gone, .gone])
theorem spSameIV_inj : ∀ i j : T × T, (fun (i : T × T) => ([.d (.agg i.1.enc), .d (.agg i.2.enc)] : List AV)) i = (fun (i : T × T) => ([.d (.agg i.1.enc), .d (.agg i.2.enc)] : List AV)) j → i = j := by
  rintro ⟨a, b⟩ ⟨a', b'⟩ h
  simp only [Prod.mk.injEq]
  simpa [strs_eq, T.enc_eq, encL_eq, F.enc_eq, encF_eq, Tk.enc_eq, encTk_eq, Gn.enc_eq, ints_eq] using h
theorem spSameIV_md  : (spSameIV).md = [false, false] := rfl
theorem spSameIV_pre  (a : T) (b : T) : (spSameIV).pre [.d (.agg a.enc), .d (.agg b.enc)] = (a.fit 140737488355328 ∧ b.fit 140737488355328) := Spec.of_pre' spSameIV_inj (a, b)
theorem spSameIV_alts  : (spSameIV).alts = none := rfl
theorem spSameIV_res  (a : T) (b : T) : (spSameIV).res [.d (.agg a.enc), .d (.agg b.enc)] = [.d (.one (.bool (decide (a = b))))] := Spec.of_res spSameIV_inj (a, b)
theorem spSameIV_out  (a : T) (b : T) : (spSameIV).out [.d (.agg a.enc), .d (.agg b.enc)] = [.gone, .gone] := Spec.of_out spSameIV_inj (a, b)
theorem sameIV_sound : Sound Go.Proofs.Tryd.prog 12 spSameIV := Sound.all (μ := fun i => SizeOf.sizeOf i.1) (fun k => (sameI_all k).1)
end Go.Proofs.Pw
/- Drawing: numbers, items of a list, trees without parts. -/
set_option linter.unusedSimpArgs false
set_option maxRecDepth 20000
namespace Go.Proofs.Pw
set_option linter.unusedSectionVars false
variable [Globs]
def x_pick : X := (.seq (.reg [⟨some 4, none, .mv (.k (.c (.int .i64 0)))⟩] none [0, 1]) (.seq (.reg [⟨some 7, none, .mv (.t 0)⟩, ⟨some 8, none, .mv (.t 0)⟩, ⟨some 9, none, .nilc (.t 8)⟩, ⟨some 10, none, .fa (.t 9) 1⟩, ⟨some 11, none, .load (.t 10) none⟩, ⟨some 12, none, .bin false .add (.t 11) (.k (.c (.int .i64 1)))⟩, ⟨some 13, none, .nilc (.t 7)⟩, ⟨some 14, none, .fa (.t 13) 1⟩, ⟨none, none, .st (.t 14) (.t 12) none⟩] none [0, 1]) (.seq (.seq (.reg [⟨some 15, none, .mv (.t 1)⟩, ⟨some 16, none, .bin false .lss (.t 15) (.k (.c (.int .i64 1)))⟩, ⟨some 17, none, .mv (.t 16)⟩, ⟨some 18, some (17, false), .mv (.t 0)⟩, ⟨some 19, some (17, false), .nilc (.t 18)⟩, ⟨some 20, some (17, false), .fa (.t 19) 0⟩, ⟨some 21, some (17, false), .load (.t 20) none⟩, ⟨some 22, some (17, false), .len (.t 21) false⟩, ⟨some 23, some (17, false), .bin false .eql (.t 22) (.k (.c (.int .i64 0)))⟩, ⟨some 24, none, .pick (.t 17) (.k (.c (.bool true))) (.t 23)⟩] none [0, 1, 24]) (.cond (.t 24) (.seq (.reg [⟨some 4, none, .mv (.k (.c (.int .i64 0)))⟩] none [4]) .ret) .skip)) (.seq (.reg [⟨some 25, none, .mv (.t 0)⟩, ⟨some 26, none, .nilc (.t 25)⟩, ⟨some 27, none, .fa (.t 26) 1⟩, ⟨some 28, none, .load (.t 27) none⟩, ⟨some 29, none, .bin false .sub (.t 28) (.k (.c (.int .i64 1)))⟩, ⟨some 5, none, .mv (.t 29)⟩] none [0, 1, 5]) (.seq (.seq (.reg [⟨some 30, none, .mv (.t 5)⟩, ⟨some 31, none, .mv (.t 0)⟩, ⟨some 32, none, .nilc (.t 31)⟩, ⟨some 33, none, .fa (.t 32) 0⟩, ⟨some 34, none, .load (.t 33) none⟩, ⟨some 35, none, .len (.t 34) false⟩, ⟨some 36, none, .bin false .lss (.t 30) (.t 35)⟩] none [0, 1, 5, 36]) (.cond (.t 36) (.seq (.reg [⟨some 37, none, .mv (.t 0)⟩, ⟨some 38, none, .nilc (.t 37)⟩, ⟨some 39, none, .fa (.t 38) 0⟩, ⟨some 40, none, .load (.t 39) none⟩, ⟨some 41, none, .mv (.t 5)⟩, ⟨some 42, none, .ia (.t 40) (.t 41) 1⟩, ⟨some 43, none, .load (.t 42) none⟩, ⟨some 44, none, .conv .i64 (.t 43)⟩, ⟨some 45, none, .mv (.t 1)⟩, ⟨some 46, none, .bin false .rem (.t 44) (.t 45)⟩, ⟨some 4, none, .mv (.t 46)⟩] none [4]) .ret) .skip)) (.seq (.reg [⟨some 47, none, .mv (.t 0)⟩, ⟨some 48, none, .nilc (.t 47)⟩, ⟨some 49, none, .fa (.t 48) 0⟩, ⟨some 50, none, .load (.t 49) none⟩, ⟨some 51, none, .mv (.t 5)⟩, ⟨some 52, none, .mv (.t 0)⟩, ⟨some 53, none, .nilc (.t 52)⟩, ⟨some 54, none, .fa (.t 53) 0⟩, ⟨some 55, none, .load (.t 54) none⟩, ⟨some 56, none, .len (.t 55) false⟩, ⟨some 57, none, .bin false .rem (.t 51) (.t 56)⟩, ⟨some 58, none, .ia (.t 50) (.t 57) 1⟩, ⟨some 59, none, .load (.t 58) none⟩, ⟨some 60, none, .conv .i64 (.t 59)⟩, ⟨some 61, none, .bin false .mul (.t 60) (.k (.c (.int .i64 131)))⟩, ⟨some 62, none, .mv (.t 0)⟩, ⟨some 63, none, .nilc (.t 62)⟩, ⟨some 64, none, .fa (.t 63) 0⟩, ⟨some 65, none, .load (.t 64) none⟩, ⟨some 66, none, .mv (.t 5)⟩, ⟨some 67, none, .bin false .mul (.t 66) (.k (.c (.int .i64 7)))⟩, ⟨some 68, none, .bin false .add (.t 67) (.k (.c (.int .i64 3)))⟩, ⟨some 69, none, .mv (.t 0)⟩, ⟨some 70, none, .nilc (.t 69)⟩, ⟨some 71, none, .fa (.t 70) 0⟩, ⟨some 72, none, .load (.t 71) none⟩, ⟨some 73, none, .len (.t 72) false⟩, ⟨some 74, none, .bin false .rem (.t 68) (.t 73)⟩, ⟨some 75, none, .ia (.t 65) (.t 74) 1⟩, ⟨some 76, none, .load (.t 75) none⟩, ⟨some 77, none, .conv .i64 (.t 76)⟩, ⟨some 78, none, .bin false .mul (.t 77) (.k (.c (.int .i64 1117)))⟩, ⟨some 79, none, .bin false .add (.t 61) (.t 78)⟩, ⟨some 80, none, .mv (.t 5)⟩, ⟨some 81, none, .bin false .mul (.t 80) (.k (.c (.int .i64 29)))⟩, ⟨some 82, none, .bin false .add (.t 79) (.t 81)⟩, ⟨some 83, none, .mv (.t 5)⟩, ⟨some 84, none, .mv (.t 0)⟩, ⟨some 85, none, .nilc (.t 84)⟩, ⟨some 86, none, .fa (.t 85) 0⟩, ⟨some 87, none, .load (.t 86) none⟩, ⟨some 88, none, .len (.t 87) false⟩, ⟨some 89, none, .bin false .quo (.t 83) (.t 88)⟩, ⟨some 90, none, .bin false .mul (.t 89) (.k (.c (.int .i64 53)))⟩, ⟨some 91, none, .bin false .add (.t 82) (.t 90)⟩, ⟨some 6, none, .mv (.t 91)⟩] (some 44) [1, 6]) (.seq (.reg [⟨some 92, none, .mv (.t 6)⟩, ⟨some 93, none, .mv (.t 6)⟩, ⟨some 94, none, .bin false .quo (.t 93) (.k (.c (.int .i64 64)))⟩, ⟨some 95, none, .bin false .xor (.t 92) (.t 94)⟩, ⟨some 6, none, .mv (.t 95)⟩] none [1, 6]) (.seq (.reg [⟨some 96, none, .mv (.t 6)⟩, ⟨some 97, none, .mv (.t 1)⟩, ⟨some 98, none, .bin false .rem (.t 96) (.t 97)⟩, ⟨some 4, none, .mv (.t 98)⟩] none [4]) .ret))))))))
theorem chk_pick : chkX Go.Proofs.Tryd.prog 99 (Go.Proofs.Tryd.f30.body.getD .skip) x_pick = true := by kernel_rfl
theorem rs_pick : okRs Go.Proofs.Tryd.prog Go.Proofs.Tryd.f30.results.toList [.tmp 4] = true := by kernel_rfl
theorem call_pick : okCallee Go.Proofs.Tryd.prog 30 = true := by kernel_rfl
def x_dof : X := (.seq (.reg [⟨some 4, none, .mv (.k (.c (.str ⟨#[]⟩)))⟩] none [0, 1]) (.seq (.reg [⟨some 5, none, .mv (.t 1)⟩, ⟨some 6, none, .mv (.t 0)⟩, ⟨some 7, none, .mv (.t 1)⟩, ⟨some 8, none, .len (.t 7) false⟩, ⟨some 9, none, .callr 30 [(.t 6), (.t 8)]⟩, ⟨some 10, none, .ia (.t 5) (.t 9) 1⟩, ⟨some 11, none, .load (.t 10) none⟩, ⟨some 4, none, .mv (.t 11)⟩] none [4]) .ret))
theorem chk_dof : chkX Go.Proofs.Tryd.prog 12 (Go.Proofs.Tryd.f32.body.getD .skip) x_dof = true := by kernel_rfl
theorem rs_dof : okRs Go.Proofs.Tryd.prog Go.Proofs.Tryd.f32.results.toList [.tmp 4] = true := by kernel_rfl
theorem call_dof : okCallee Go.Proofs.Tryd.prog 32 = true := by kernel_rfl
def x_dnum : X := (.seq (.reg [⟨some 4, none, .mv (.k (.c (.int .i64 0)))⟩] none [0, 1]) (.seq (.reg [⟨some 5, none, .mv (.t 1)⟩, ⟨some 6, none, .mv (.t 0)⟩, ⟨some 7, none, .mv (.t 1)⟩, ⟨some 8, none, .len (.t 7) false⟩, ⟨some 9, none, .callr 30 [(.t 6), (.t 8)]⟩, ⟨some 10, none, .ia (.t 5) (.t 9) 1⟩, ⟨some 11, none, .load (.t 10) none⟩, ⟨some 4, none, .mv (.t 11)⟩] none [4]) .ret))
theorem chk_dnum : chkX Go.Proofs.Tryd.prog 12 (Go.Proofs.Tryd.f31.body.getD .skip) x_dnum = true := by kernel_rfl
theorem rs_dnum : okRs Go.Proofs.Tryd.prog Go.Proofs.Tryd.f31.results.toList [.tmp 4] = true := by kernel_rfl
theorem call_dnum : okCallee Go.Proofs.Tryd.prog 31 = true := by kernel_rfl
def x_l1Leaf : X := (.seq (.reg [⟨some 2, none, .alloc [(.c (.int .i64 0)), (.c (.int .i64 0)), (.c (.str ⟨#[]⟩)), (.z 1), (.z 5)]⟩] none [0, 2]) (.seq (.seq (.reg [⟨some 3, none, .mv (.t 0)⟩, ⟨some 4, none, .callr 30 [(.t 3), (.k (.c (.int .i64 8)))]⟩] none [0, 2, 4]) (.block 0 (.seq (.reg [⟨some 6, none, .bin false .eql (.t 4) (.k (.c (.int .i64 0)))⟩, ⟨some 5, none, .mv (.t 6)⟩] none [0, 2, 4, 5]) (.cond (.t 5) (.seq (.reg [⟨some 7, none, .mv (.t 0)⟩, ⟨some 8, none, .callr 30 [(.t 7), (.k (.c (.int .i64 3)))]⟩, ⟨some 9, none, .build [(.c (.int .i64 0)), (.c (.int .i64 0)), (.c (.str ⟨#[]⟩)), (.z 1), (.z 5)] [(0, (.t 8), none)]⟩, ⟨none, none, .st (.t 2) (.t 9) (some 5)⟩] none [2]) .ret) (.seq (.seq (.reg [⟨some 11, none, .bin false .eql (.t 4) (.k (.c (.int .i64 1)))⟩, ⟨some 10, none, .mv (.t 11)⟩] none [0, 2, 4, 10]) (.cond (.t 10) .skip (.reg [⟨some 12, none, .bin false .eql (.t 4) (.k (.c (.int .i64 2)))⟩, ⟨some 10, none, .mv (.t 12)⟩] none [0, 2, 4, 10]))) (.cond (.t 10) (.seq (.reg [⟨some 13, none, .mv (.t 0)⟩, ⟨some 14, none, .bsl 1 [((.k (.c (.str ⟨#[]⟩))), none), ((.k (.c (.str ⟨#[97]⟩))), none), ((.k (.c (.str ⟨#[98]⟩))), none), ((.k (.c (.str ⟨#[97, 98]⟩))), none), ((.k (.c (.str ⟨#[122, 122]⟩))), none), ((.k (.c (.str ⟨#[97, 98, 99, 100, 101, 102, 103, 104, 105, 106, 107, 108]⟩))), none)]⟩, ⟨some 15, none, .callr 32 [(.t 13), (.t 14)]⟩, ⟨some 16, none, .build [(.c (.int .i64 0)), (.c (.int .i64 0)), (.c (.str ⟨#[]⟩)), (.z 1), (.z 5)] [(0, (.k (.c (.int .i64 4))), none), (2, (.t 15), none)]⟩, ⟨none, none, .st (.t 2) (.t 16) (some 5)⟩] none [2]) .ret) (.seq (.reg [⟨some 18, none, .bin false .eql (.t 4) (.k (.c (.int .i64 3)))⟩, ⟨some 17, none, .mv (.t 18)⟩] none [0, 2, 17]) (.cond (.t 17) (.seq (.reg [⟨some 19, none, .mv (.t 0)⟩, ⟨some 20, none, .callr 30 [(.t 19), (.k (.c (.int .i64 2)))]⟩, ⟨some 21, none, .bin false .add (.k (.c (.int .i64 5))) (.t 20)⟩, ⟨some 22, none, .build [(.c (.int .i64 0)), (.c (.int .i64 0)), (.c (.str ⟨#[]⟩)), (.z 1), (.z 5)] [(0, (.t 21), none)]⟩, ⟨none, none, .st (.t 2) (.t 22) (some 5)⟩] none [2]) .ret) .skip)))))))) (.seq (.reg [⟨some 23, none, .mv (.t 0)⟩, ⟨some 24, none, .bsl 1 [((.k (.c (.int .i64 0))), none), ((.k (.c (.int .i64 1))), none), ((.k (.c (.int .i64 2))), none), ((.k (.c (.int .i64 3))), none), ((.k (.c (.int .i64 (-1)))), none), ((.k (.c (.int .i64 7))), none), ((.k (.c (.int .i64 1000000))), none)]⟩, ⟨some 25, none, .callr 31 [(.t 23), (.t 24)]⟩, ⟨some 26, none, .build [(.c (.int .i64 0)), (.c (.int .i64 0)), (.c (.str ⟨#[]⟩)), (.z 1), (.z 5)] [(0, (.k (.c (.int .i64 3))), none), (1, (.t 25), none)]⟩, ⟨none, none, .st (.t 2) (.t 26) (some 5)⟩] none [2]) .ret)))
theorem chk_l1Leaf : chkX Go.Proofs.Tryd.prog 27 (Go.Proofs.Tryd.f49.body.getD .skip) x_l1Leaf = true := by kernel_rfl
theorem rs_l1Leaf : okRs Go.Proofs.Tryd.prog Go.Proofs.Tryd.f49.results.toList [.cell 2 (some 5)] = true := by kernel_rfl
theorem call_l1Leaf : okCallee Go.Proofs.Tryd.prog 49 = true := by kernel_rfl
def spPick  : Spec := Spec.ofR (ι := (List Int) × Int × Int) (κ := Int) [true, false] (fun i => [.ref (rdC i.1 i.2.1), .d (.one (.int .i64 i.2.2))]) (fun i => byt i.1 ∧ 0 ≤ i.2.1 ∧ i.2.1 ≤ 1099511627776 ∧ i.2.2 ≤ 1000000) (fun i k => 0 ≤ k ∧ (1 ≤ i.2.2 → k < i.2.2) ∧ (i.2.2 < 1 → k = 0)) (fun i k => [.d (.one (.int .i64 k))]) (fun i k => [.ref (rdC i.1 (i.2.1 + 1)), .gone])
theorem spPick_inj : ∀ i j : (List Int) × Int × Int, (fun (i : (List Int) × Int × Int) => ([.ref (rdC i.1 i.2.1), .d (.one (.int .i64 i.2.2))] : List AV)) i = (fun (i : (List Int) × Int × Int) => ([.ref (rdC i.1 i.2.1), .d (.one (.int .i64 i.2.2))] : List AV)) j → i = j := by
  rintro ⟨bs, p, n⟩ ⟨bs', p', n'⟩ h
  simp only [Prod.mk.injEq]
  simpa [strs_eq, T.enc_eq, encL_eq, F.enc_eq, encF_eq, Tk.enc_eq, encTk_eq, Gn.enc_eq, ints_eq, rdC_eq, and_assoc] using h
theorem spPick_md  : (spPick).md = [true, false] := rfl
theorem spPick_pre  (bs : List Int) (p : Int) (n : Int) : (spPick).pre [.ref (rdC bs p), .d (.one (.int .i64 n))] = (byt bs ∧ 0 ≤ p ∧ p ≤ 1099511627776 ∧ n ≤ 1000000) := Spec.ofR_pre spPick_inj (bs, p, n)
theorem spPick_ne0  (bs : List Int) (p : Int) (n : Int) : (spPick).ne [.ref (rdC bs p), .d (.one (.int .i64 n))] = (∃ k : Int, 0 ≤ k ∧ (1 ≤ n → k < n) ∧ (n < 1 → k = 0)) := Spec.ofR_ne spPick_inj (bs, p, n)
theorem spPick_all  (bs : List Int) (p : Int) (n : Int) (F : List AV → List AV → Prop) : (spPick).all [.ref (rdC bs p), .d (.one (.int .i64 n))] F = (∀ (m : Int), (0 ≤ m ∧ (1 ≤ n → m < n) ∧ (n < 1 → m = 0)) → F [.d (.one (.int .i64 m))] [.ref (rdC bs (p + 1)), .gone]) := by
  refine (Spec.ofR_all spPick_inj (bs, p, n) F).trans (propext ⟨fun h m hr => h m hr, fun h k hr => ?_⟩)
  exact h k hr
theorem spPick_ne (bs : List Int) (p n : Int) : spPick.ne [.ref (rdC bs p), .d (.one (.int .i64 n))] = True := by
  rw [spPick_ne0]
  exact eq_true ⟨0, by omega⟩
set_option maxHeartbeats 2000000 in
theorem pick_sound : Sound Go.Proofs.Tryd.prog 30 spPick := by
  refine sound_famR GOK.nil Go.Proofs.Tryd.func30 (c := Go.Proofs.Tryd.f30.body.getD .skip) rfl (n := 99) rfl chk_pick rs_pick (fun _ => by simp) ?_
  · rintro ⟨bs, p, n⟩ ⟨hb, h1, h2, h3⟩
    change byt bs at hb
    have hl := hb.2
    simp only at h1 h2 h3
    have hm : ∀ x : Int, 0 ≤ x → ¬ n < 1 → 0 ≤ x.tmod n ∧ x.tmod n < n := fun x hx hn => ⟨Int.tmod_nonneg n hx, Int.tmod_lt_of_pos x (by omega)⟩
    by_cases c1 : n < 1
    · have a1 : (n < 1) = True := eq_true c1
      simp only [x_pick, rdC, rg, go_sem, seval, ints_len, a1]
      repeat' (first | with_reducible assumption | with_reducible refine And.intro ?_ ?_ | intro _)
      all_goals first | omega | exact ⟨0, by omega, rfl⟩
    · have a1 : (n < 1) = False := eq_false c1
      by_cases c2 : bs.length = 0
      · have a2 : ((bs.length : Int) = 0) = True := by simp [c2]
        simp only [x_pick, rdC, rg, go_sem, seval, ints_len, a1, a2]
        repeat' (first | with_reducible assumption | with_reducible refine And.intro ?_ ?_ | intro _)
        all_goals first | omega | exact ⟨0, by omega, rfl⟩
      · have a2 : ((bs.length : Int) = 0) = False := by simp; intro h; exact c2 (by simp [h])
        have a3 : p + 1 - 1 = p := by omega
        by_cases c3 : p < bs.length
        · have a4 : (p < (bs.length : Int)) = True := eq_true c3
          obtain ⟨b, _, a5, b1, b2⟩ := byt_at hb (i := p.toNat) (by omega)
          simp only [x_pick, rdC, rg, go_sem, seval, ints_len, a1, a2, a3, a4, a5]
          repeat' (first | with_reducible assumption | with_reducible refine And.intro ?_ ?_ | intro _)
          all_goals first | omega | skip
          have := hm b b1 c1
          exact ⟨b.tmod n, by omega, rfl⟩
        · have a4 : (p < (bs.length : Int)) = False := eq_false c3
          have hL : 0 < (bs.length : Int) := by omega
          have d1 := Int.tmod_nonneg (bs.length : Int) h1
          have d2 := Int.tmod_lt_of_pos p hL
          have d3 := Int.tmod_nonneg (bs.length : Int) (show 0 ≤ p * 7 + 3 by omega)
          have d4 := Int.tmod_lt_of_pos (p * 7 + 3) hL
          have d5 : 0 ≤ p.tdiv bs.length := Int.tdiv_nonneg h1 (by omega)
          have d6 : p.tdiv bs.length ≤ p := by
            rw [Int.tdiv_eq_ediv_of_nonneg h1]
            exact Int.ediv_le_self _ h1
          obtain ⟨b, _, a5, b1, b2⟩ := byt_at hb (i := (p.tmod bs.length).toNat) (by omega)
          obtain ⟨c, _, a6, c5, c6⟩ := byt_at hb (i := ((p * 7 + 3).tmod bs.length).toNat) (by omega)
          have d7 : 0 ≤ (b * 131 + c * 1117 + p * 29 + p.tdiv bs.length * 53).tdiv 64 := Int.tdiv_nonneg (by omega) (by omega)
          have d8 : (b * 131 + c * 1117 + p * 29 + p.tdiv bs.length * 53).tdiv 64 ≤ b * 131 + c * 1117 + p * 29 + p.tdiv bs.length * 53 := by
            rw [Int.tdiv_eq_ediv_of_nonneg (by omega)]
            exact Int.ediv_le_self _ (by omega)
          simp only [x_pick, rdC, rg, go_sem, seval, ints_len, a1, a2, a3, a4, a5, a6]
          repeat' (first | with_reducible assumption | with_reducible refine And.intro ?_ ?_ | intro _)
          all_goals first | omega | skip
          have := hm (((b * 131 + c * 1117 + p * 29 + p.tdiv bs.length * 53).toNat ^^^ ((b * 131 + c * 1117 + p * 29 + p.tdiv bs.length * 53).tdiv 64).toNat : Nat) : Int) (by omega) c1
          exact ⟨_, ⟨this.1, fun _ => this.2⟩, rfl⟩
def spDof  : Spec := Spec.ofR (ι := (List Int) × Int × (List ByteArray)) (κ := ByteArray) [true, false] (fun i => [.ref (rdC i.1 i.2.1), .d (.one (.row 1 (strs i.2.2)))]) (fun i => byt i.1 ∧ 0 ≤ i.2.1 ∧ i.2.1 ≤ 1099511627776 ∧ 1 ≤ i.2.2.length ∧ i.2.2.length ≤ 1000) (fun i k => k ∈ i.2.2 ∨ i.2.2 = []) (fun i k => [.d (.one (.str k))]) (fun i k => [.ref (rdC i.1 (i.2.1 + 1)), .gone])
theorem spDof_inj : ∀ i j : (List Int) × Int × (List ByteArray), (fun (i : (List Int) × Int × (List ByteArray)) => ([.ref (rdC i.1 i.2.1), .d (.one (.row 1 (strs i.2.2)))] : List AV)) i = (fun (i : (List Int) × Int × (List ByteArray)) => ([.ref (rdC i.1 i.2.1), .d (.one (.row 1 (strs i.2.2)))] : List AV)) j → i = j := by
  rintro ⟨bs, p, l⟩ ⟨bs', p', l'⟩ h
  simp only [Prod.mk.injEq]
  simpa [strs_eq, T.enc_eq, encL_eq, F.enc_eq, encF_eq, Tk.enc_eq, encTk_eq, Gn.enc_eq, ints_eq, rdC_eq, and_assoc] using h
theorem spDof_md  : (spDof).md = [true, false] := rfl
theorem spDof_pre  (bs : List Int) (p : Int) (l : List ByteArray) : (spDof).pre [.ref (rdC bs p), .d (.one (.row 1 (strs l)))] = (byt bs ∧ 0 ≤ p ∧ p ≤ 1099511627776 ∧ 1 ≤ l.length ∧ l.length ≤ 1000) := Spec.ofR_pre spDof_inj (bs, p, l)
theorem spDof_ne0  (bs : List Int) (p : Int) (l : List ByteArray) : (spDof).ne [.ref (rdC bs p), .d (.one (.row 1 (strs l)))] = (∃ k : ByteArray, k ∈ l ∨ l = []) := Spec.ofR_ne spDof_inj (bs, p, l)
theorem spDof_all  (bs : List Int) (p : Int) (l : List ByteArray) (F : List AV → List AV → Prop) : (spDof).all [.ref (rdC bs p), .d (.one (.row 1 (strs l)))] F = (∀ (s : ByteArray), (s ∈ l ∨ l = []) → F [.d (.one (.str s))] [.ref (rdC bs (p + 1)), .gone]) := by
  refine (Spec.ofR_all spDof_inj (bs, p, l) F).trans (propext ⟨fun h s hr => h s hr, fun h k hr => ?_⟩)
  exact h k hr
theorem spDof_ne (bs : List Int) (p : Int) (l : List ByteArray) : spDof.ne [.ref (rdC bs p), .d (.one (.row 1 (strs l)))] = True := by
  rw [spDof_ne0]
  cases l with
  | nil => exact eq_true ⟨⟨#[]⟩, .inr rfl⟩
  | cons x l => exact eq_true ⟨x, .inl (by simp)⟩
theorem dof_sound : Sound Go.Proofs.Tryd.prog 32 spDof := by
  refine sound_famR (GOK.cons call_pick pick_sound GOK.nil) Go.Proofs.Tryd.func32 (c := Go.Proofs.Tryd.f32.body.getD .skip) rfl (n := 12) rfl chk_dof rs_dof (fun _ => by simp) ?_
  · rintro ⟨bs, p, l⟩ ⟨hb, h1, h2, h3, h4⟩
    change byt bs at hb
    simp only at h1 h2 h3 h4
    simp only [x_dof, rg, go_sem, seval, strs_len, spPick_md, spPick_pre, spPick_ne, ↓spPick_all, spPick_all]
    repeat' (first | with_reducible assumption | with_reducible refine And.intro ?_ ?_ | intro _)
    all_goals first | omega | skip
    · rename_i m hm _
      obtain ⟨s, hs, _, hmem⟩ := drop_at (l := l) (i := m.toNat) (by omega)
      rw [strs_at hs]; simp
    · rename_i m hm _ _
      obtain ⟨s, hs, _, hmem⟩ := drop_at (l := l) (i := m.toNat) (by omega)
      rw [strs_at hs]
      exact ⟨s, .inl hmem, rfl⟩
def spDnum  : Spec := Spec.ofR (ι := (List Int) × Int × (List Int)) (κ := Int) [true, false] (fun i => [.ref (rdC i.1 i.2.1), .d (.one (.row 1 (ints .i64 i.2.2)))]) (fun i => byt i.1 ∧ 0 ≤ i.2.1 ∧ i.2.1 ≤ 1099511627776 ∧ 1 ≤ i.2.2.length ∧ i.2.2.length ≤ 1000) (fun i k => k ∈ i.2.2 ∨ i.2.2 = []) (fun i k => [.d (.one (.int .i64 k))]) (fun i k => [.ref (rdC i.1 (i.2.1 + 1)), .gone])
theorem spDnum_inj : ∀ i j : (List Int) × Int × (List Int), (fun (i : (List Int) × Int × (List Int)) => ([.ref (rdC i.1 i.2.1), .d (.one (.row 1 (ints .i64 i.2.2)))] : List AV)) i = (fun (i : (List Int) × Int × (List Int)) => ([.ref (rdC i.1 i.2.1), .d (.one (.row 1 (ints .i64 i.2.2)))] : List AV)) j → i = j := by
  rintro ⟨bs, p, l⟩ ⟨bs', p', l'⟩ h
  simp only [Prod.mk.injEq]
  simpa [strs_eq, T.enc_eq, encL_eq, F.enc_eq, encF_eq, Tk.enc_eq, encTk_eq, Gn.enc_eq, ints_eq, rdC_eq, and_assoc] using h
theorem spDnum_md  : (spDnum).md = [true, false] := rfl
theorem spDnum_pre  (bs : List Int) (p : Int) (l : List Int) : (spDnum).pre [.ref (rdC bs p), .d (.one (.row 1 (ints .i64 l)))] = (byt bs ∧ 0 ≤ p ∧ p ≤ 1099511627776 ∧ 1 ≤ l.length ∧ l.length ≤ 1000) := Spec.ofR_pre spDnum_inj (bs, p, l)
theorem spDnum_ne0  (bs : List Int) (p : Int) (l : List Int) : (spDnum).ne [.ref (rdC bs p), .d (.one (.row 1 (ints .i64 l)))] = (∃ k : Int, k ∈ l ∨ l = []) := Spec.ofR_ne spDnum_inj (bs, p, l)
theorem spDnum_all  (bs : List Int) (p : Int) (l : List Int) (F : List AV → List AV → Prop) : (spDnum).all [.ref (rdC bs p), .d (.one (.row 1 (ints .i64 l)))] F = (∀ (s : Int), (s ∈ l ∨ l = []) → F [.d (.one (.int .i64 s))] [.ref (rdC bs (p + 1)), .gone]) := by
  refine (Spec.ofR_all spDnum_inj (bs, p, l) F).trans (propext ⟨fun h s hr => h s hr, fun h k hr => ?_⟩)
  exact h k hr
theorem spDnum_ne (bs : List Int) (p : Int) (l : List Int) : spDnum.ne [.ref (rdC bs p), .d (.one (.row 1 (ints .i64 l)))] = True := by
  rw [spDnum_ne0]
  cases l with
  | nil => exact eq_true ⟨0, .inr rfl⟩
  | cons x l => exact eq_true ⟨x, .inl (by simp)⟩
theorem dnum_sound : Sound Go.Proofs.Tryd.prog 31 spDnum := by
  refine sound_famR (GOK.cons call_pick pick_sound GOK.nil) Go.Proofs.Tryd.func31 (c := Go.Proofs.Tryd.f31.body.getD .skip) rfl (n := 12) rfl chk_dnum rs_dnum (fun _ => by simp) ?_
  · rintro ⟨bs, p, l⟩ ⟨hb, h1, h2, h3, h4⟩
    change byt bs at hb
    simp only at h1 h2 h3 h4
    simp only [x_dnum, rg, go_sem, seval, ints_len, spPick_md, spPick_pre, spPick_ne, ↓spPick_all, spPick_all]
    repeat' (first | with_reducible assumption | with_reducible refine And.intro ?_ ?_ | intro _)
    all_goals first | omega | skip
    · rename_i m hm _
      obtain ⟨s, hs, _, hmem⟩ := drop_at (l := l) (i := m.toNat) (by omega)
      rw [ints_at hs]; simp
    · rename_i m hm _ _
      obtain ⟨s, hs, _, hmem⟩ := drop_at (l := l) (i := m.toNat) (by omega)
      rw [ints_at hs]
      exact ⟨s, .inl hmem, rfl⟩
theorem strs3 (a b c : ByteArray) : C.row 1 [[C.str a], [C.str b], [C.str c]] = C.row 1 (strs [a, b, c]) := rfl
theorem strs4l (a b c d : ByteArray) : [[C.str a], [C.str b], [C.str c], [C.str d]] = strs [a, b, c, d] := rfl
theorem strs6 (a b c d e f : ByteArray) : C.row 1 [[C.str a], [C.str b], [C.str c], [C.str d], [C.str e], [C.str f]] = C.row 1 (strs [a, b, c, d, e, f]) := rfl
theorem ints3 (a b c : Int) : C.row 1 [[C.int .i64 a], [C.int .i64 b], [C.int .i64 c]] = C.row 1 (ints .i64 [a, b, c]) := rfl
theorem ints5 (a b c d e : Int) : C.row 1 [[C.int .i64 a], [C.int .i64 b], [C.int .i64 c], [C.int .i64 d], [C.int .i64 e]] = C.row 1 (ints .i64 [a, b, c, d, e]) := rfl
theorem ints7 (a b c d e f g : Int) : C.row 1 [[C.int .i64 a], [C.int .i64 b], [C.int .i64 c], [C.int .i64 d], [C.int .i64 e], [C.int .i64 f], [C.int .i64 g]] = C.row 1 (ints .i64 [a, b, c, d, e, f, g]) := rfl
def spLeaf  : Spec := Spec.ofR (ι := (List Int) × Int) (κ := Int × Int × ByteArray × (List ByteArray) × (List T) × Int) [true] (fun i => [.ref (rdC i.1 i.2)]) (fun i => byt i.1 ∧ 0 ≤ i.2 ∧ i.2 ≤ 1099511627776 - 20) (fun i k => drT 1 (.mk k.1 k.2.1 k.2.2.1 k.2.2.2.1 k.2.2.2.2.1) ∧ i.2 ≤ k.2.2.2.2.2 ∧ k.2.2.2.2.2 ≤ i.2 + 20) (fun i k => [.ag [.c (.int .i64 k.1), .c (.int .i64 k.2.1), .c (.str k.2.2.1), .o 1 (strs k.2.2.2.1), .c (.row 5 (encL k.2.2.2.2.1))]]) (fun i k => [.ref (rdC i.1 k.2.2.2.2.2)])
theorem spLeaf_inj : ∀ i j : (List Int) × Int, (fun (i : (List Int) × Int) => ([.ref (rdC i.1 i.2)] : List AV)) i = (fun (i : (List Int) × Int) => ([.ref (rdC i.1 i.2)] : List AV)) j → i = j := by
  rintro ⟨bs, p⟩ ⟨bs', p'⟩ h
  simp only [Prod.mk.injEq]
  simpa [strs_eq, T.enc_eq, encL_eq, F.enc_eq, encF_eq, Tk.enc_eq, encTk_eq, Gn.enc_eq, ints_eq, rdC_eq, and_assoc] using h
theorem spLeaf_md  : (spLeaf).md = [true] := rfl
theorem spLeaf_pre  (bs : List Int) (p : Int) : (spLeaf).pre [.ref (rdC bs p)] = (byt bs ∧ 0 ≤ p ∧ p ≤ 1099511627776 - 20) := Spec.ofR_pre spLeaf_inj (bs, p)
theorem spLeaf_ne0  (bs : List Int) (p : Int) : (spLeaf).ne [.ref (rdC bs p)] = (∃ k : Int × Int × ByteArray × (List ByteArray) × (List T) × Int, drT 1 (.mk k.1 k.2.1 k.2.2.1 k.2.2.2.1 k.2.2.2.2.1) ∧ p ≤ k.2.2.2.2.2 ∧ k.2.2.2.2.2 ≤ p + 20) := Spec.ofR_ne spLeaf_inj (bs, p)
theorem spLeaf_all  (bs : List Int) (p : Int) (F : List AV → List AV → Prop) : (spLeaf).all [.ref (rdC bs p)] F = (∀ (k : Int) (n : Int) (s : ByteArray) (ks : List ByteArray) (l : List T) (q : Int), (drT 1 (.mk k n s ks l) ∧ p ≤ q ∧ q ≤ p + 20) → F [.ag [.c (.int .i64 k), .c (.int .i64 n), .c (.str s), .o 1 (strs ks), .c (.row 5 (encL l))]] [.ref (rdC bs q)]) := by
  refine (Spec.ofR_all spLeaf_inj (bs, p) F).trans (propext ⟨fun h k n s ks l q hr => h (k, n, s, ks, l, q) hr, fun h k hr => ?_⟩)
  exact h k.1 k.2.1 k.2.2.1 k.2.2.2.1 k.2.2.2.2.1 k.2.2.2.2.2 hr
theorem spLeaf_ne (bs : List Int) (p : Int) : spLeaf.ne [.ref (rdC bs p)] = True := by
  rw [spLeaf_ne0]
  exact eq_true ⟨(0, 0, ⟨#[]⟩, [], [], p), drT_leaf (k := 0) (n := 0) (s := ⟨#[]⟩) (by unfold i64; omega) (by unfold i64; omega) (by decide), Int.le_refl _, by show p ≤ p + 20; omega⟩
theorem leaf_ex {bs : List Int} {p q k n : Int} {s : ByteArray} (hk : i64 k) (hn : i64 n) (hs : (s.size : Int) ≤ 1000) (hq : p ≤ q ∧ q ≤ p + 20) : ∃ i : Int × Int × ByteArray × List ByteArray × List T × Int,
    (drT 1 (T.mk i.1 i.2.1 i.2.2.1 i.2.2.2.1 i.2.2.2.2.1) ∧ p ≤ i.2.2.2.2.2 ∧ i.2.2.2.2.2 ≤ p + 20) ∧ (k = i.1 ∧ n = i.2.1 ∧ s = i.2.2.1 ∧ strs i.2.2.2.1 = [] ∧ [] = encL i.2.2.2.2.1) ∧ rdC bs q = rdC bs i.2.2.2.2.2 :=
  ⟨(k, n, s, [], [], q), ⟨drT_leaf hk hn hs, hq⟩, ⟨rfl, rfl, rfl, rfl, rfl⟩, rfl⟩
set_option maxHeartbeats 1000000 in
theorem l1Leaf_sound : Sound Go.Proofs.Tryd.prog 49 spLeaf := by
  refine sound_famR (GOK.cons (l := [(32, spDof), (31, spDnum)]) call_pick pick_sound (GOK.cons call_dof dof_sound (GOK.cons call_dnum dnum_sound GOK.nil))) Go.Proofs.Tryd.func49 (c := Go.Proofs.Tryd.f49.body.getD .skip) rfl (n := 27) rfl chk_l1Leaf rs_l1Leaf (fun _ => by simp) ?_
  · rintro ⟨bs, p⟩ ⟨hb, h1, h2⟩
    change byt bs at hb
    simp only at h1 h2
    simp only [x_l1Leaf, rg, go_sem, seval, Prod.fst, strs6, ints7, spPick_md, spPick_pre, spPick_ne, ↓spPick_all, spPick_all, spDof_md, spDof_pre, spDof_ne, ↓spDof_all, spDof_all, spDnum_md, spDnum_pre, spDnum_ne, ↓spDnum_all, spDnum_all]
    repeat' (first | with_reducible assumption | with_reducible refine And.intro ?_ ?_ | intro _)
    all_goals first | omega | skip
    all_goals
      refine leaf_ex ?_ ?_ ?_ (by omega)
      all_goals first | (unfold i64; omega) | decide | skip
    all_goals
      rename_i h
      simp only [List.mem_cons, List.not_mem_nil, or_false] at h
      first | (rcases h with rfl | rfl | rfl | rfl | rfl | rfl <;> decide) | (unfold i64; omega)
end Go.Proofs.Pw
