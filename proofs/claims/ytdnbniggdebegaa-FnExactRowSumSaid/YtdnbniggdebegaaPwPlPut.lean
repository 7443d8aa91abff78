/- A key's place among keys in order; a tree put there. -/
import Derived.Test.YtdnbniggdebegaaPwPlBy
set_option linter.unusedSimpArgs false
set_option linter.unusedVariables false
namespace Go.Proofs.Pw
/-- Keys in order, each once. -/
def Asc (ks : List ByteArray) : Prop := ks.Pairwise sl
open Classical in
/-- How many keys are ahead of it. -/
noncomputable def posS (key : ByteArray) : List ByteArray → Nat
  | [] => 0
  | k :: ks => if sl k key then posS key ks + 1 else 0
theorem posS_le (key : ByteArray) : ∀ ks, posS key ks ≤ ks.length
  | [] => Nat.le_refl _
  | k :: ks => by
    have := posS_le key ks
    simp only [posS]; split <;> simp <;> omega
theorem Asc.tail {k : ByteArray} {ks : List ByteArray} (h : Asc (k :: ks)) : Asc ks := (List.pairwise_cons.1 h).2
theorem Asc.head {k : ByteArray} {ks : List ByteArray} (h : Asc (k :: ks)) : ∀ s ∈ ks, sl k s := (List.pairwise_cons.1 h).1
theorem posS_lt {key : ByteArray} : ∀ {ks : List ByteArray}, Asc ks → ∀ {m : Nat} {k : ByteArray}, ks[m]? = some k → (sl k key ↔ m < posS key ks)
  | [], _, m, k, h => by simp at h
  | x :: ks, ha, m, k, h => by
    simp only [posS]
    cases m with
    | zero =>
      simp at h; subst h
      by_cases c : sl x key
      · simp [c]
      · simp [c]
    | succ m =>
      have hk : ks[m]? = some k := by simpa using h
      by_cases c : sl x key
      · rw [if_pos c, posS_lt ha.tail hk]; omega
      · rw [if_neg c]
        refine ⟨fun hs => absurd (sl_trans (ha.head k (List.mem_of_getElem? hk)) hs) c, fun h => by omega⟩
theorem putS_done (key : ByteArray) (x : T) : ∀ {ks : List ByteArray} {l : List T}, (∀ s ∈ ks, s ≠ key) → ks.length = l.length → putS key x true ks l = (ks, l)
  | [], [], _, _ => by simp [putS]
  | [], _ :: _, _, h => by simp at h
  | _ :: _, [], _, h => by simp at h
  | k :: ks, t :: l, hk, hl => by
    have ih := putS_done key x (ks := ks) (l := l) (fun s hs => hk s (by simp [hs])) (by simpa using hl)
    have := hk k (by simp)
    simp [putS, this, ih]
theorem putS_in {key : ByteArray} {x : T} : ∀ {ks : List ByteArray} {l : List T}, Asc ks → ks.length = l.length → ks[posS key ks]? = some key → putS key x false ks l = (ks, l.set (posS key ks) x)
  | [], _, _, _, h => by simp [posS] at h
  | _ :: _, [], _, h, _ => by simp at h
  | k :: ks, t :: l, ha, hl, hp => by
    by_cases c : sl k key
    · have hne : k ≠ key := fun e => by subst e; exact sl_irrefl _ c
      simp only [posS, if_pos c, List.getElem?_cons_succ] at hp
      have ih := putS_in (x := x) (l := l) ha.tail (by simpa using hl) hp
      simp [putS, posS, c, hne, ih]
    · simp only [posS, if_neg c, List.getElem?_cons_zero, Option.some.injEq] at hp
      subst hp
      have := putS_done k x (ks := ks) (l := l) (fun s hs e => by have := ha.head s hs; rw [e] at this; exact sl_irrefl _ this) (by simpa using hl)
      simp [putS, posS, c, this]
theorem putS_new {key : ByteArray} {x : T} : ∀ {ks : List ByteArray} {l : List T}, Asc ks → ks.length = l.length → ks[posS key ks]? ≠ some key → putS key x false ks l = (ks.take (posS key ks) ++ key :: ks.drop (posS key ks), l.take (posS key ks) ++ x :: l.drop (posS key ks))
  | [], [], _, _, _ => by simp [putS, posS]
  | [], _ :: _, _, h, _ => by simp at h
  | _ :: _, [], _, h, _ => by simp at h
  | k :: ks, t :: l, ha, hl, hp => by
    by_cases c : sl k key
    · have hne : k ≠ key := fun e => by subst e; exact sl_irrefl _ c
      simp only [posS, if_pos c, List.getElem?_cons_succ] at hp
      have ih := putS_new (x := x) (l := l) ha.tail (by simpa using hl) hp
      simp [putS, posS, c, hne, ih]
    · simp only [posS, if_neg c, List.getElem?_cons_zero, ne_eq, Option.some.injEq] at hp
      have h1 : sl key k := (sl_tri k key).1 (fun h => h.elim c hp)
      have := putS_done key x (ks := ks) (l := l) (fun s hs e => by have := sl_trans h1 (ha.head s hs); rw [e] at this; exact sl_irrefl _ this) (by simpa using hl)
      simp [putS, posS, c, hp, this]
theorem okKeys_asc {ks : List ByteArray} (h : okKeys ks) : Asc ks := by
  refine List.pairwise_iff_getElem.2 ?_
  intro i j hi hj hij
  have key : ∀ n, ∀ (hn : i + n + 1 < ks.length), sl ks[i] (ks[i + n + 1]) := by
    intro n
    induction n with
    | zero => intro hn; exact h.2 i _ _ hn (List.getElem?_eq_getElem _) (List.getElem?_eq_getElem _)
    | succ n ih =>
      intro hn
      have h1 := ih (by omega)
      have h2 := h.2 (i + n + 1) _ _ hn (List.getElem?_eq_getElem (by omega)) (List.getElem?_eq_getElem hn)
      exact sl_trans h1 h2
  have := key (j - i - 1) (by omega)
  simpa [show i + (j - i - 1) + 1 = j by omega] using this
/-- Put into keys in order, they are in order. -/
theorem putS_asc {key : ByteArray} {x : T} {ks : List ByteArray} {l : List T} (ha : Asc ks) (hl : ks.length = l.length) : Asc (putS key x false ks l).1 := by
  by_cases c : ks[posS key ks]? = some key
  · rw [putS_in ha hl c]; exact ha
  · rw [putS_new ha hl c]
    have h1 : ∀ s ∈ ks.take (posS key ks), sl s key := fun s hs => by
      obtain ⟨i, hi⟩ := List.getElem?_of_mem hs
      rw [List.getElem?_take] at hi
      split at hi
      · rename_i hlt; exact (posS_lt ha hi).2 hlt
      · cases hi
    have h2 : ∀ s ∈ ks.drop (posS key ks), sl key s := fun s hs => by
      obtain ⟨i, hi⟩ := List.getElem?_of_mem hs
      rw [List.getElem?_drop] at hi
      have hn : ¬ sl s key := fun h => by have := (posS_lt ha hi).1 h; omega
      refine (sl_tri s key).1 (fun h => h.elim hn (fun e => ?_))
      subst e
      cases i with
      | zero => exact c hi
      | succ i =>
        have hlt : posS s ks < ks.length := by have := (List.getElem?_eq_some_iff.1 hi).1; omega
        have h3 : ¬ sl (ks[posS s ks]) s := fun h => by have := (posS_lt ha (List.getElem?_eq_getElem hlt)).1 h; omega
        obtain ⟨hlt2, he⟩ := List.getElem?_eq_some_iff.1 hi
        have h4 := (List.pairwise_iff_getElem.1 ha) (posS s ks) (posS s ks + (i + 1)) hlt hlt2 (by omega)
        rw [he] at h4
        exact h3 h4
    unfold Asc at ha ⊢
    rw [← List.take_append_drop (posS key ks) ks, List.pairwise_append] at ha
    rw [List.pairwise_append]
    exact ⟨ha.1, List.pairwise_cons.2 ⟨h2, ha.2.1⟩, fun a h3 b h4 => by
      rcases List.mem_cons.1 h4 with rfl | h4
      · exact h1 a h3
      · exact ha.2.2 a h3 b h4⟩
theorem putS_len2 {key : ByteArray} {x : T} {ks : List ByteArray} {l : List T} (ha : Asc ks) (hl : ks.length = l.length) : (putS key x false ks l).1.length = (putS key x false ks l).2.length := by
  by_cases c : ks[posS key ks]? = some key
  · rw [putS_in ha hl c]; simpa using hl
  · rw [putS_new ha hl c]; simp; omega
end Go.Proofs.Pw
