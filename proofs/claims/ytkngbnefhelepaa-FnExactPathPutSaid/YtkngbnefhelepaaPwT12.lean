/- Rows: the least, a piece. -/
import Derived.Test.YtkngbnefhelepaaPwT11
import Derived.Test.YtkngbnefhelepaaPwT9
import Derived.Test.YtkngbnefhelepaaPwT10
set_option linter.unusedSimpArgs false
set_option linter.unusedVariables false
set_option linter.unusedSimpArgs false
set_option maxRecDepth 20000
namespace Go.Proofs.Pw
set_option linter.unusedSectionVars false
variable [Globs]
def x_row : X := (.seq (.reg [⟨some 2, none, .alloc [(.c (.int .i64 0)), (.c (.int .i64 0)), (.c (.str ⟨#[]⟩)), (.z 1), (.z 5)]⟩] none [0, 2]) (.seq (.reg [⟨some 3, none, .mv (.t 0)⟩, ⟨some 4, none, .build [(.c (.int .i64 0)), (.c (.int .i64 0)), (.c (.str ⟨#[]⟩)), (.z 1), (.z 5)] [(0, (.k (.c (.int .i64 5))), none), (4, (.t 3), none)]⟩, ⟨none, none, .st (.t 2) (.t 4) (some 5)⟩] none [2]) .ret))
theorem chk_row : chkX Go.Proofs.Try.prog 5 (Go.Proofs.Try.f61.body.getD .skip) x_row = true := by kernel_rfl
theorem rs_row : okRs Go.Proofs.Try.prog Go.Proofs.Try.f61.results.toList [.cell 2 (some 5)] = true := by kernel_rfl
theorem call_row : okCallee Go.Proofs.Try.prog 61 = true := by kernel_rfl
def leastOk (v : T) : Prop := rowT v ∧ okT ((sortC cmpT v.list).headD T.zero)
noncomputable instance (t : T) : Decidable (leastOk t) := Classical.propDecidable _
noncomputable def spRow  : Spec := Spec.of (ι := (List T)) [false] (fun i => [.d (.one (.row 5 (encL i)))]) (fun _ => True) (fun i => [.d (.agg (T.mk 5 0 ⟨#[]⟩ [] i).enc)]) (fun _ => [.gone])
theorem spRow_inj : ∀ i j : (List T), (fun (i : (List T)) => ([.d (.one (.row 5 (encL i)))] : List AV)) i = (fun (i : (List T)) => ([.d (.one (.row 5 (encL i)))] : List AV)) j → i = j := by
  intro l l' h
  simpa [strs_eq, T.enc_eq, encL_eq, F.enc_eq, encF_eq, Tk.enc_eq, encTk_eq, Gn.enc_eq, ints_eq] using h
theorem spRow_md  : (spRow).md = [false] := rfl
theorem spRow_pre  (l : List T) : (spRow).pre [.d (.one (.row 5 (encL l)))] = (True) := Spec.of_pre' spRow_inj l
theorem spRow_alts  : (spRow).alts = none := rfl
theorem spRow_res  (l : List T) : (spRow).res [.d (.one (.row 5 (encL l)))] = [.d (.agg (T.mk 5 0 ⟨#[]⟩ [] l).enc)] := Spec.of_res spRow_inj l
theorem spRow_out  (l : List T) : (spRow).out [.d (.one (.row 5 (encL l)))] = [.gone] := Spec.of_out spRow_inj l
theorem row_sound : Sound Go.Proofs.Try.prog 61 spRow := by
  refine sound_fam GOK.nil Go.Proofs.Try.func61 (c := Go.Proofs.Try.f61.body.getD .skip) rfl (n := 5) rfl chk_row rs_row (fun _ => by simp) ?_ ?_
  · exact spRow_inj
  · intro l _
    simp only [x_row, rg, go_sem, seval, T.enc, strs]
end Go.Proofs.Pw
/- Trees that are ok: their parts, and rows of some of them. -/
set_option linter.unusedSectionVars false
namespace Go.Proofs.Pw
variable [Globs]
mutual
theorem formT_mono {d e : Int} (h : d ≤ e) : ∀ {t : T}, formT t d → formT t e
  | .mk k n s ks l, hf => by
    simp only [formT] at hf ⊢
    obtain ⟨h1, h2, h3, h4, h5, h6, h7, h8, h9, h10, h11, h12⟩ := hf
    exact ⟨by omega, h2, h3, h4, h5, h6, h7, h8, h9, h10, h11, formL_mono (by omega) h12⟩
theorem formL_mono {d e : Int} (h : d ≤ e) : ∀ {l : List T}, formL l d → formL l e
  | [], _ => trivial
  | _ :: _, hf => ⟨formT_mono h hf.1, formL_mono h hf.2⟩
end
mutual
theorem manyT_deep {d e : Int} (h : d ≤ e) : ∀ {t : T}, formT t d → manyT t e = manyT t d
  | .mk k n s ks l, hf => by
    simp only [formT] at hf
    simp only [manyT]
    rw [manyL_deep (d := d) (e := e) h hf.1 hf.2.2.2.2.2.2.2.2.2.2.2]
theorem manyL_deep {d e : Int} (h : d ≤ e) (h1 : 1 ≤ d) : ∀ {l : List T}, formL l (d - 1) → manyL l e = manyL l d
  | [], _ => by simp [manyL]
  | t :: l, hf => by
    simp only [manyL]
    rw [if_pos (by omega), if_pos (by omega), manyT_deep (d := d - 1) (e := e - 1) (by omega) hf.1, manyL_deep h h1 hf.2]
end
theorem formT_list {k n : Int} {s : ByteArray} {ks : List ByteArray} {l : List T} {d : Int} (h : formT (.mk k n s ks l) d) : formL l (d - 1) := by
  simp only [formT] at h
  exact h.2.2.2.2.2.2.2.2.2.2.2
theorem manyL_at {l : List T} {t : T} {d : Int} (hd : 0 < d) (h : t ∈ l) : manyT t (d - 1) ≤ manyL l d := by
  induction l with
  | nil => simp at h
  | cons x l ih =>
    have h1 := manyL_le l d
    have h2 := manyT_le x (d - 1)
    simp only [manyL]
    rw [if_pos hd]
    rcases List.mem_cons.1 h with rfl | h
    · omega
    · have := ih h; omega
theorem okT_elem {k n : Int} {s : ByteArray} {ks : List ByteArray} {l : List T} (h : okT (.mk k n s ks l)) {t : T} (ht : t ∈ l) : okT t := by
  have h1 := formL_mem.1 (formT_list h.1) t ht
  have h2 := manyL_at (d := 6) (by omega) ht
  have h3 := manyT_deep (d := 6 - 1) (e := 6) (by omega) h1
  have h4 := h.2
  simp only [manyT] at h4
  exact ⟨formT_mono (by omega) h1, by omega⟩
theorem toldT_ok {t : T} (h : okT t) : toldT true t = t := by unfold toldT; rw [if_pos ⟨rfl, h⟩]
end Go.Proofs.Pw
/- Rows, each tree once. -/
namespace Go.Proofs.Pw
end Go.Proofs.Pw
/- Rows, grouped by what stands under a key. -/
namespace Go.Proofs.Pw
set_option linter.unusedSectionVars false
variable [Globs]
/-- Where in a list of keys a key is, from i on. -/
def idxS (x : ByteArray) : Nat → List ByteArray → Int
  | _, [] => -1
  | i, y :: r => if x = y then i else idxS x (i + 1) r
theorem idxS_rng {x : ByteArray} : ∀ {l : List ByteArray} {i : Nat}, -1 ≤ idxS x i l ∧ idxS x i l < i + l.length
  | [], i => by simp [idxS]; omega
  | y :: r, i => by
    have := idxS_rng (x := x) (l := r) (i := i + 1)
    simp only [idxS, List.length_cons]
    split <;> omega
open Classical in
/-- What stands under a key. -/
noncomputable def getT (key : ByteArray) (v : T) : T := if v.kind = 6 ∧ 0 ≤ idxS key 0 v.keys then v.list.getD (idxS key 0 v.keys).toNat T.zero else T.zero
def getOk (v : T) : Prop := v.kind = 6 ∨ v.kind = 0
noncomputable instance (v : T) : Decidable (getOk v) := Classical.propDecidable _
theorem okT_keys {k n : Int} {s : ByteArray} {ks : List ByteArray} {l : List T} (h : okT (.mk k n s ks l)) (hk : k = 6) : ks.length = l.length := by
  have := h.1; simp only [formT] at this; exact (this.2.2.2.2.2.2.2.2.2.2.1 hk).1
theorem okT_none {v : T} (h : okT v) (hk : v.kind = 0) : v = T.zero := by
  obtain ⟨k, n, s, ks, l⟩ := v
  have := h.1; simp only [formT] at this
  simp only [T.kind] at hk
  obtain ⟨_, h1, h2, h3, h4, _⟩ := this
  have e1 : n = 0 := by omega
  have e2 : s = ⟨#[]⟩ := by rcases h2 with h | h; omega; exact h
  have e3 : ks = [] := by rcases h3 with h | h; omega; exact h
  have e4 : l = [] := by rcases h4 with h | h; omega; exact h
  subst e1 e2 e3 e4 hk; rfl
theorem getT_mem {key : ByteArray} {v : T} (h : okT v) : getT key v = T.zero ∨ getT key v ∈ v.list := by
  unfold getT
  split
  · rename_i c
    obtain ⟨k, n, s, ks, l⟩ := v
    have hl := okT_keys h c.1
    have hr := idxS_rng (x := key) (l := ks) (i := 0)
    simp only [T.keys, T.list] at c ⊢
    have hlt : (idxS key 0 ks).toNat < l.length := by omega
    right
    rw [List.getD_eq_getElem?_getD, List.getElem?_eq_getElem hlt]; simp
  · exact .inl rfl
theorem okT_zero' : okT T.zero := ⟨by simp [T.zero, formT, formL, okS_nil], by simp [T.zero, manyT, manyL]⟩
theorem getT_ok {key : ByteArray} {v : T} (h : okT v) : okT (getT key v) := by
  rcases getT_mem (key := key) h with e | e
  · rw [e]; exact okT_zero'
  · obtain ⟨k, n, s, ks, l⟩ := v; exact okT_elem h e
theorem fitL_in {B : Int} : ∀ {l : List T}, fitL B l → ∀ t ∈ l, t.fit B
  | _ :: _, h, t, ht => by
    rcases List.mem_cons.1 ht with rfl | ht
    · exact h.1
    · exact fitL_in h.2 t ht
noncomputable def marks (key : ByteArray) (l : List T) : List T := l.map (getT key)
def byOk (v : T) (key : ByteArray) : Prop := rowT v ∧ okS key ∧ ∀ x ∈ v.list, getOk x
noncomputable instance (v : T) (key : ByteArray) : Decidable (byOk v key) := Classical.propDecidable _
open Classical in
/-- Keys and trees, a key put in its place. -/
noncomputable def putS (key : ByteArray) (x : T) : Bool → List ByteArray → List T → List ByteArray × List T
  | done, k :: ks, t :: l =>
    let d := !done && !decide (sl k key)
    let r := putS key x (done || d) ks l
    ((if d then [key] else []) ++ (if k = key then [] else [k]) ++ r.1, (if d then [x] else []) ++ (if k = key then [] else [t]) ++ r.2)
  | done, _, _ => if done then ([], []) else ([key], [x])
theorem putS_len (key : ByteArray) (x : T) : ∀ (done : Bool) (ks : List ByteArray) (l : List T), (putS key x done ks l).1.length ≤ ks.length + (if done then 0 else 1) ∧ (putS key x done ks l).2.length ≤ l.length + (if done then 0 else 1)
  | done, k :: ks, t :: l => by
    have ih := putS_len key x (done || (!done && !decide (sl k key))) ks l
    simp only [putS]
    by_cases d : k = key
    · subst d
      have hs : ¬ sl k k := sl_irrefl k
      cases done <;> simp [hs] at ih ⊢ <;> omega
    · by_cases c : sl k key <;> cases done <;> simp [c, d] at ih ⊢ <;> omega
  | done, [], l => by cases done <;> simp [putS]
  | done, k :: ks, [] => by cases done <;> simp [putS]
theorem putS_mem (key : ByteArray) (x : T) : ∀ (done : Bool) (ks : List ByteArray) (l : List T), (∀ s ∈ (putS key x done ks l).1, s = key ∨ s ∈ ks) ∧ (∀ t ∈ (putS key x done ks l).2, t = x ∨ t ∈ l)
  | done, k :: ks, t :: l => by
    have ih := putS_mem key x (done || (!done && !decide (sl k key))) ks l
    simp only [putS]
    refine ⟨fun s hs => ?_, fun s hs => ?_⟩
    · rcases List.mem_append.1 hs with hs | hs
      · rcases List.mem_append.1 hs with hs | hs
        · split at hs <;> simp at hs; exact .inl hs
        · split at hs <;> simp at hs; exact .inr (by simp [hs])
      · rcases ih.1 s hs with h | h
        · exact .inl h
        · exact .inr (by simp [h])
    · rcases List.mem_append.1 hs with hs | hs
      · rcases List.mem_append.1 hs with hs | hs
        · split at hs <;> simp at hs; exact .inl hs
        · split at hs <;> simp at hs; exact .inr (by simp [hs])
      · rcases ih.2 s hs with h | h
        · exact .inl h
        · exact .inr (by simp [h])
  | done, [], l => by cases done <;> simp [putS]
  | done, k :: ks, [] => by cases done <;> simp [putS]
theorem putS_size (key : ByteArray) (x : T) : ∀ (done : Bool) (ks : List ByteArray) (l : List T), sizeL (putS key x done ks l).2 ≤ sizeL l + (if done then 0 else sizeT x)
  | done, k :: ks, t :: l => by
    have ih := putS_size key x (done || (!done && !decide (sl k key))) ks l
    have h3 := manyT_le t 0
    have h4 := manyT_le x 0
    simp only [putS]
    by_cases d : k = key
    · subst d
      have hs : ¬ sl k k := sl_irrefl k
      cases done <;> simp [hs, sizeL] at ih ⊢ <;> omega
    · by_cases c : sl k key <;> cases done <;> simp [c, d, sizeL] at ih ⊢ <;> omega
  | done, [], l => by
    have h := manyL_le l 0
    cases done <;> simp [putS, sizeL] <;> omega
  | done, k :: ks, [] => by cases done <;> simp [putS, sizeL]
end Go.Proofs.Pw
/- A key's place among keys in order; a tree put there. -/
namespace Go.Proofs.Pw
/-- Keys in order, each once. -/
def Asc (ks : List ByteArray) : Prop := ks.Pairwise sl
open Classical in
/-- How many keys are ahead of it. -/
noncomputable def posS (key : ByteArray) : List ByteArray → Nat
  | [] => 0
  | k :: ks => if sl k key then posS key ks + 1 else 0
theorem posS_le (key : ByteArray) : ∀ ks, posS key ks ≤ ks.length
  | [] => Nat.le_refl _
  | k :: ks => by
    have := posS_le key ks
    simp only [posS]; split <;> simp <;> omega
theorem Asc.tail {k : ByteArray} {ks : List ByteArray} (h : Asc (k :: ks)) : Asc ks := (List.pairwise_cons.1 h).2
theorem Asc.head {k : ByteArray} {ks : List ByteArray} (h : Asc (k :: ks)) : ∀ s ∈ ks, sl k s := (List.pairwise_cons.1 h).1
theorem posS_lt {key : ByteArray} : ∀ {ks : List ByteArray}, Asc ks → ∀ {m : Nat} {k : ByteArray}, ks[m]? = some k → (sl k key ↔ m < posS key ks)
  | [], _, m, k, h => by simp at h
  | x :: ks, ha, m, k, h => by
    simp only [posS]
    cases m with
    | zero =>
      simp at h; subst h
      by_cases c : sl x key
      · simp [c]
      · simp [c]
    | succ m =>
      have hk : ks[m]? = some k := by simpa using h
      by_cases c : sl x key
      · rw [if_pos c, posS_lt ha.tail hk]; omega
      · rw [if_neg c]
        refine ⟨fun hs => absurd (sl_trans (ha.head k (List.mem_of_getElem? hk)) hs) c, fun h => by omega⟩
theorem putS_done (key : ByteArray) (x : T) : ∀ {ks : List ByteArray} {l : List T}, (∀ s ∈ ks, s ≠ key) → ks.length = l.length → putS key x true ks l = (ks, l)
  | [], [], _, _ => by simp [putS]
  | [], _ :: _, _, h => by simp at h
  | _ :: _, [], _, h => by simp at h
  | k :: ks, t :: l, hk, hl => by
    have ih := putS_done key x (ks := ks) (l := l) (fun s hs => hk s (by simp [hs])) (by simpa using hl)
    have := hk k (by simp)
    simp [putS, this, ih]
theorem putS_in {key : ByteArray} {x : T} : ∀ {ks : List ByteArray} {l : List T}, Asc ks → ks.length = l.length → ks[posS key ks]? = some key → putS key x false ks l = (ks, l.set (posS key ks) x)
  | [], _, _, _, h => by simp [posS] at h
  | _ :: _, [], _, h, _ => by simp at h
  | k :: ks, t :: l, ha, hl, hp => by
    by_cases c : sl k key
    · have hne : k ≠ key := fun e => by subst e; exact sl_irrefl _ c
      simp only [posS, if_pos c, List.getElem?_cons_succ] at hp
      have ih := putS_in (x := x) (l := l) ha.tail (by simpa using hl) hp
      simp [putS, posS, c, hne, ih]
    · simp only [posS, if_neg c, List.getElem?_cons_zero, Option.some.injEq] at hp
      subst hp
      have := putS_done k x (ks := ks) (l := l) (fun s hs e => by have := ha.head s hs; rw [e] at this; exact sl_irrefl _ this) (by simpa using hl)
      simp [putS, posS, c, this]
theorem putS_new {key : ByteArray} {x : T} : ∀ {ks : List ByteArray} {l : List T}, Asc ks → ks.length = l.length → ks[posS key ks]? ≠ some key → putS key x false ks l = (ks.take (posS key ks) ++ key :: ks.drop (posS key ks), l.take (posS key ks) ++ x :: l.drop (posS key ks))
  | [], [], _, _, _ => by simp [putS, posS]
  | [], _ :: _, _, h, _ => by simp at h
  | _ :: _, [], _, h, _ => by simp at h
  | k :: ks, t :: l, ha, hl, hp => by
    by_cases c : sl k key
    · have hne : k ≠ key := fun e => by subst e; exact sl_irrefl _ c
      simp only [posS, if_pos c, List.getElem?_cons_succ] at hp
      have ih := putS_new (x := x) (l := l) ha.tail (by simpa using hl) hp
      simp [putS, posS, c, hne, ih]
    · simp only [posS, if_neg c, List.getElem?_cons_zero, ne_eq, Option.some.injEq] at hp
      have h1 : sl key k := (sl_tri k key).1 (fun h => h.elim c hp)
      have := putS_done key x (ks := ks) (l := l) (fun s hs e => by have := sl_trans h1 (ha.head s hs); rw [e] at this; exact sl_irrefl _ this) (by simpa using hl)
      simp [putS, posS, c, hp, this]
theorem okKeys_asc {ks : List ByteArray} (h : okKeys ks) : Asc ks := by
  refine List.pairwise_iff_getElem.2 ?_
  intro i j hi hj hij
  have key : ∀ n, ∀ (hn : i + n + 1 < ks.length), sl ks[i] (ks[i + n + 1]) := by
    intro n
    induction n with
    | zero => intro hn; exact h.2 i _ _ hn (List.getElem?_eq_getElem _) (List.getElem?_eq_getElem _)
    | succ n ih =>
      intro hn
      have h1 := ih (by omega)
      have h2 := h.2 (i + n + 1) _ _ hn (List.getElem?_eq_getElem (by omega)) (List.getElem?_eq_getElem hn)
      exact sl_trans h1 h2
  have := key (j - i - 1) (by omega)
  simpa [show i + (j - i - 1) + 1 = j by omega] using this
/-- Put into keys in order, they are in order. -/
theorem putS_asc {key : ByteArray} {x : T} {ks : List ByteArray} {l : List T} (ha : Asc ks) (hl : ks.length = l.length) : Asc (putS key x false ks l).1 := by
  by_cases c : ks[posS key ks]? = some key
  · rw [putS_in ha hl c]; exact ha
  · rw [putS_new ha hl c]
    have h1 : ∀ s ∈ ks.take (posS key ks), sl s key := fun s hs => by
      obtain ⟨i, hi⟩ := List.getElem?_of_mem hs
      rw [List.getElem?_take] at hi
      split at hi
      · rename_i hlt; exact (posS_lt ha hi).2 hlt
      · cases hi
    have h2 : ∀ s ∈ ks.drop (posS key ks), sl key s := fun s hs => by
      obtain ⟨i, hi⟩ := List.getElem?_of_mem hs
      rw [List.getElem?_drop] at hi
      have hn : ¬ sl s key := fun h => by have := (posS_lt ha hi).1 h; omega
      refine (sl_tri s key).1 (fun h => h.elim hn (fun e => ?_))
      subst e
      cases i with
      | zero => exact c hi
      | succ i =>
        have hlt : posS s ks < ks.length := by have := (List.getElem?_eq_some_iff.1 hi).1; omega
        have h3 : ¬ sl (ks[posS s ks]) s := fun h => by have := (posS_lt ha (List.getElem?_eq_getElem hlt)).1 h; omega
        obtain ⟨hlt2, he⟩ := List.getElem?_eq_some_iff.1 hi
        have h4 := (List.pairwise_iff_getElem.1 ha) (posS s ks) (posS s ks + (i + 1)) hlt hlt2 (by omega)
        rw [he] at h4
        exact h3 h4
    unfold Asc at ha ⊢
    rw [← List.take_append_drop (posS key ks) ks, List.pairwise_append] at ha
    rw [List.pairwise_append]
    exact ⟨ha.1, List.pairwise_cons.2 ⟨h2, ha.2.1⟩, fun a h3 b h4 => by
      rcases List.mem_cons.1 h4 with rfl | h4
      · exact h1 a h3
      · exact ha.2.2 a h3 b h4⟩
theorem putS_len2 {key : ByteArray} {x : T} {ks : List ByteArray} {l : List T} (ha : Asc ks) (hl : ks.length = l.length) : (putS key x false ks l).1.length = (putS key x false ks l).2.length := by
  by_cases c : ks[posS key ks]? = some key
  · rw [putS_in ha hl c]; simpa using hl
  · rw [putS_new ha hl c]; simp; omega
end Go.Proofs.Pw
/- A tree that is ok is small. -/
namespace Go.Proofs.Pw
mutual
theorem form_many : ∀ (t : T) (d : Int), formT t d → manyT t d = sizeT t
  | .mk k n s ks l, d, h => by
    simp only [formT] at h
    simp only [manyT, sizeT]
    rw [formL_many l d h.1 h.2.2.2.2.2.2.2.2.2.2.2]
theorem formL_many : ∀ (l : List T) (d : Int), 1 ≤ d → formL l (d - 1) → manyL l d = sizeL l
  | [], d, _, _ => by simp [manyL, sizeL]
  | t :: l, d, hd, h => by
    simp only [formL] at h
    simp only [manyL, sizeL]
    rw [if_pos (by omega), form_many t (d - 1) h.1, formL_many l d hd h.2]
end
theorem okT_size {t : T} (h : okT t) : sizeT t ≤ 60 := by rw [← form_many t 6 h.1]; exact h.2
theorem sizeL_len : ∀ l : List T, (l.length : Int) ≤ sizeL l
  | [] => by simp [sizeL]
  | t :: l => by
    have h1 := sizeL_len l
    have h2 : 1 ≤ sizeT t := by obtain ⟨k, n, s, ks, r⟩ := t; have := manyL_le r 0; simp only [sizeT]; omega
    simp only [sizeL, List.length_cons]; omega
theorem sizeT_pos (t : T) : 1 ≤ sizeT t := by obtain ⟨k, n, s, ks, r⟩ := t; have := manyL_le r 0; simp only [sizeT]; omega
theorem sizeL_nn (l : List T) : 0 ≤ sizeL l := by have := manyL_le l 0; omega
mutual
theorem form_fit : ∀ (t : T) (d : Int), formT t d → sizeT t ≤ 60 → t.fit 60
  | .mk k n s ks l, d, h, hs => by
    simp only [formT] at h
    obtain ⟨h1, h2, h3, h4, h5, h6, h7, h8, h9, h10, h11, h12⟩ := h
    simp only [sizeT] at hs
    have hl := sizeL_len l
    have h13 := h10.2
    refine ⟨by unfold i64; omega, by unfold i64; omega, by unfold lenB; omega, ⟨?_, ?_⟩, by unfold lenB; omega, formL_fit l (d - 1) h12 (by omega)⟩
    · rcases h4 with rfl | rfl
      · have := (h11 rfl).1
        unfold lenB; omega
      · simp [lenB]
    · intro x hx
      rcases h4 with rfl | rfl
      · obtain ⟨i, hi⟩ := List.getElem?_of_mem hx
        have := (okKeys_at (h11 rfl).2 hi).2
        unfold lenB; omega
      · simp at hx
theorem formL_fit : ∀ (l : List T) (d : Int), formL l d → sizeL l ≤ 59 → fitL 60 l
  | [], _, _, _ => trivial
  | t :: l, d, h, hs => by
    simp only [formL] at h
    simp only [sizeL] at hs
    have h1 := sizeT_pos t
    have h2 := sizeL_nn l
    exact ⟨form_fit t d h.1 (by omega), formL_fit l d h.2 (by omega)⟩
end
theorem okT_fit {t : T} (h : okT t) : t.fit 60 := form_fit t 6 h.1 (okT_size h)
end Go.Proofs.Pw
/- Ways: what they are, what lies at their end, and what is put there. -/
namespace Go.Proofs.Pw
def stpOk (s : Stp) : Prop := if s.map = true then okS s.key ∧ s.at' = 0 else s.key = ⟨#[]⟩ ∧ -60 ≤ s.at' ∧ s.at' ≤ 59
noncomputable instance (s : Stp) : Decidable (stpOk s) := Classical.propDecidable _
def wayOk (p : List Stp) : Prop := (∀ s ∈ p, stpOk s) ∧ p.length ≤ 6
noncomputable instance (p : List Stp) : Decidable (wayOk p) := Classical.propDecidable _
/-- A place of a row of n, counted from the end on if it lies below 0; -1 if there is none. -/
def placeI (n at' : Int) : Int := if 0 ≤ (if at' < 0 then at' + n else at') ∧ (if at' < 0 then at' + n else at') ≤ n - 1 then (if at' < 0 then at' + n else at') else -1
noncomputable def atT (at' : Int) (v : T) : T := if v.kind = 5 ∧ 0 ≤ placeI v.list.length at' then v.list.getD (placeI v.list.length at').toNat T.zero else T.zero
def atOk (v : T) : Prop := v.kind = 5 ∨ v.kind = 0
noncomputable instance (v : T) : Decidable (atOk v) := Classical.propDecidable _
noncomputable def oneT (s : Stp) (v : T) : T := if s.map = true then getT s.key v else atT s.at' v
def canGo (s : Stp) (v : T) : Prop := if s.map = true then getOk v else atOk v
noncomputable instance (s : Stp) (v : T) : Decidable (canGo s v) := Classical.propDecidable _
theorem placeI_lt {n at' : Int} (h : 0 ≤ placeI n at') : placeI n at' < n := by unfold placeI at *; split at h <;> (try split) <;> omega
def stpFit (s : Stp) : Prop := (s.key.size : Int) ≤ 140737488355328 ∧ -9223372036854775808 ≤ s.at' ∧ s.at' ≤ 9223372036854775807
def wayFit (p : List Stp) : Prop := (p.length : Int) ≤ 140737488355328 ∧ ∀ s ∈ p, stpFit s
theorem Stp.enc_eq {a b : Stp} : a.enc = b.enc ↔ a = b := ⟨fun h => by
  obtain ⟨m, k, n⟩ := a
  obtain ⟨m', k', n'⟩ := b
  simp only [Stp.enc, List.cons.injEq, C.bool.injEq, C.str.injEq, C.int.injEq, true_and, and_true] at h
  obtain ⟨rfl, rfl, rfl⟩ := h
  rfl, fun h => h ▸ rfl⟩
theorem Stp.len3 (s : Stp) : s.enc.length = 3 := rfl
theorem Stp.take3 (s : Stp) : s.enc.take 3 = s.enc := rfl
theorem Stp.takeQ (s : Stp) : (s.enc.map Q.c).take 3 = s.enc.map Q.c := rfl
attribute [go_sem] Stp.take3 Stp.takeQ Stp.len3
theorem wayFit_at {p : List Stp} (h : wayFit p) {i : Nat} {s : Stp} (hs : p[i]? = some s) : stpFit s := h.2 s (List.mem_of_getElem? hs)
end Go.Proofs.Pw
/- Marks: what the laws write into trees, and look for. -/
namespace Go.Proofs.Pw
theorem encLX_eq {a b : List T} : encLX a = encLX b ↔ a = b := ⟨fun h => by
  have h1 := dtR_encLX a
  rw [h, dtR_encLX b] at h1
  exact (encL_inj (Option.some.inj h1)).symm, fun h => h ▸ rfl⟩
theorem agX_eq {a b : T} : agX a = agX b ↔ a = b := ⟨fun h => by
  cases a; cases b
  simp only [agX, List.cons.injEq, Pt.c.injEq, Pt.o.injEq, C.int.injEq, C.str.injEq, true_and, and_true] at h
  obtain ⟨h1, h2, h3, h4, h5⟩ := h
  rw [h1, h2, h3, strs_inj h4, encLX_eq.1 h5], fun h => h ▸ rfl⟩
def digF : Nat → Int → ByteArray → ByteArray
  | 0, _, out => out
  | f + 1, k, out => if 0 < k then digF f (k.tdiv 10) (bytesS [48 + k.tmod 10] ++ out) else out
def mkS (k : Int) : ByteArray := if k ≤ 0 then ⟨#[109, 48]⟩ else ⟨#[109]⟩ ++ digF k.toNat k ⟨#[]⟩
theorem digF_pos {f : Nat} {k : Int} {out : ByteArray} (h : 0 < k) : digF (f + 1) k out = digF f (k.tdiv 10) (bytesS [48 + k.tmod 10] ++ out) := by simp [digF, h]
theorem digF_stop {f : Nat} {k : Int} {out : ByteArray} (h : ¬ 0 < k) : digF f k out = out := by cases f <;> simp [digF, h]
theorem digF_more : ∀ {f g : Nat} {k : Int} {out : ByteArray}, k.toNat ≤ f → k.toNat ≤ g → digF f k out = digF g k out := by
  intro f
  induction f with
  | zero => intro g k out h1 _; rw [digF_stop (by omega), digF_stop (by omega)]
  | succ f ih =>
    intro g k out h1 h2
    by_cases h : 0 < k
    · cases g with
      | zero => omega
      | succ g =>
        rw [digF_pos h, digF_pos h]
        have : k.tdiv 10 = k / 10 := Int.tdiv_eq_ediv_of_nonneg (by omega)
        exact ih (by rw [this]; omega) (by rw [this]; omega)
    · rw [digF_stop h, digF_stop h]
def mkKs : List ByteArray → Int → List ByteArray
  | [], _ => []
  | _ :: r, k => mkS k :: mkKs r (k + 1)
mutual
def nmT : T → Int
  | .mk _ _ _ ks l => 3 + ks.length + nmL l
def nmL : List T → Int
  | [] => 0
  | t :: l => nmT t + nmL l
end
mutual
def mkT : T → Int → T
  | .mk _ _ _ ks l, k => .mk k (k + 1) (mkS (k + 2)) (mkKs ks (k + 3)) (mkL l (k + 3 + ks.length))
def mkL : List T → Int → List T
  | [], _ => []
  | t :: l, k => mkT t k :: mkL l (k + nmT t)
end
/-- What is marked in a tree that is handed over by its value. -/
def mkV : T → Int → T
  | .mk kk n s ks l, k => .mk kk n s (mkKs ks k) (mkL l (k + ks.length))
def nmV : T → Int
  | .mk _ _ _ ks l => ks.length + nmL l
theorem mkKs_len : ∀ {ks : List ByteArray} {k : Int}, (mkKs ks k).length = ks.length
  | [], _ => rfl
  | _ :: r, k => by simp [mkKs, mkKs_len (ks := r)]
theorem mkL_len : ∀ {l : List T} {k : Int}, (mkL l k).length = l.length
  | [], _ => rfl
  | _ :: r, k => by simp [mkL, mkL_len (l := r)]
mutual
theorem nmT_nn : ∀ t : T, 3 ≤ nmT t
  | .mk _ _ _ ks l => by have := nmL_nn l; simp only [nmT]; omega
theorem nmL_nn : ∀ l : List T, 0 ≤ nmL l
  | [] => by simp [nmL]
  | t :: l => by have := nmT_nn t; have := nmL_nn l; simp only [nmL]; omega
end
mutual
theorem nmT_mk : ∀ (t : T) (k : Int), nmT (mkT t k) = nmT t
  | .mk _ _ _ ks l, k => by simp only [mkT, nmT, mkKs_len, nmL_mk l]
theorem nmL_mk : ∀ (l : List T) (k : Int), nmL (mkL l k) = nmL l
  | [], _ => rfl
  | t :: l, k => by simp only [mkL, nmL, nmT_mk t, nmL_mk l]
end
theorem mkKs_mk : ∀ (ks : List ByteArray) (k : Int), mkKs (mkKs ks k) k = mkKs ks k
  | [], _ => rfl
  | _ :: r, k => by simp only [mkKs, mkKs_mk r]
mutual
theorem mkT_mk : ∀ (t : T) (k : Int), mkT (mkT t k) k = mkT t k
  | .mk _ _ _ ks l, k => by simp only [mkT, mkKs_mk, mkKs_len, mkL_mk l]
theorem mkL_mk : ∀ (l : List T) (k : Int), mkL (mkL l k) k = mkL l k
  | [], _ => rfl
  | t :: l, k => by simp only [mkL, mkT_mk t, nmT_mk t, mkL_mk l]
end
theorem mkV_mk (t : T) (k : Int) : mkV (mkV t k) k = mkV t k := by cases t; simp only [mkV, mkKs_mk, mkKs_len, mkL_mk]
theorem nmV_mk (t : T) (k : Int) : nmV (mkV t k) = nmV t := by cases t; simp only [mkV, nmV, mkKs_len, nmL_mk]
theorem nmL_app : ∀ (a b : List T), nmL (a ++ b) = nmL a + nmL b
  | [], b => by simp [nmL]
  | t :: a, b => by simp only [List.cons_append, nmL, nmL_app a b]; omega
theorem nmL_take {l : List T} {i : Nat} {t : T} (h : l[i]? = some t) : nmL (l.take (i + 1)) = nmL (l.take i) + nmT t := by
  rw [List.take_add_one, h, nmL_app]; simp [nmL]
theorem mkL_app : ∀ (a b : List T) (k : Int), mkL (a ++ b) k = mkL a k ++ mkL b (k + nmL a)
  | [], b, k => by simp [mkL, nmL]
  | t :: a, b, k => by simp only [List.cons_append, mkL, nmL, mkL_app a b]; rw [show k + nmT t + nmL a = k + (nmT t + nmL a) by omega]
theorem mkKs_app : ∀ (a b : List ByteArray) (k : Int), mkKs (a ++ b) k = mkKs a k ++ mkKs b (k + a.length)
  | [], b, k => by simp [mkKs]
  | t :: a, b, k => by simp only [List.cons_append, mkKs, mkKs_app a b, List.length_cons]; rw [show k + 1 + (a.length : Int) = k + ((a.length + 1 : Nat) : Int) by omega]
theorem mkL_take {l : List T} {i : Nat} {t : T} (h : l[i]? = some t) (k : Int) : mkL (l.take (i + 1)) k = mkL (l.take i) k ++ [mkT t (k + nmL (l.take i))] := by
  rw [List.take_add_one, h, mkL_app]; simp [mkL]
theorem mkKs_take {l : List ByteArray} {i : Nat} {t : ByteArray} (h : l[i]? = some t) (k : Int) : mkKs (l.take (i + 1)) k = mkKs (l.take i) k ++ [mkS (k + i)] := by
  have hl : i < l.length := (List.getElem?_eq_some_iff.1 h).1
  rw [List.take_add_one, h, mkKs_app]; simp [mkKs, Nat.min_eq_left (Nat.le_of_lt hl)]
theorem nmL_take_le {l : List T} {i : Nat} : nmL (l.take i) ≤ nmL l := by
  have h := nmL_app (l.take i) (l.drop i)
  rw [List.take_append_drop] at h
  have := nmL_nn (l.drop i); omega
theorem drop_of {α : Type} {l : List α} {i : Nat} {t : α} (h : l[i]? = some t) : l.drop i = t :: l.drop (i + 1) := by
  have hi : i < l.length := (List.getElem?_eq_some_iff.1 h).1
  rw [List.getElem?_eq_getElem hi] at h
  rw [List.drop_eq_getElem_cons hi, Option.some.inj h]
theorem mkL_at {l : List T} {k : Int} (h : mkL l k = l) {i : Nat} {t : T} (ht : l[i]? = some t) : mkT t (k + nmL (l.take i)) = t := by
  have hi : i < l.length := (List.getElem?_eq_some_iff.1 ht).1
  have e1 := mkL_app (l.take i) (l.drop i) k
  rw [List.take_append_drop, h, drop_of ht] at e1
  simp only [mkL] at e1
  have e2 := congrArg (fun x => x[i]?) e1
  simp only [ht] at e2
  rw [List.getElem?_append_right (by rw [mkL_len]; simp; omega), mkL_len, List.length_take, Nat.min_eq_left (Nat.le_of_lt hi), Nat.sub_self, List.getElem?_cons_zero] at e2
  exact (Option.some.inj e2).symm
theorem mkKs_at {l : List ByteArray} {k : Int} (h : mkKs l k = l) {i : Nat} {t : ByteArray} (ht : l[i]? = some t) : mkS (k + i) = t := by
  have hi : i < l.length := (List.getElem?_eq_some_iff.1 ht).1
  have e1 := mkKs_app (l.take i) (l.drop i) k
  rw [List.take_append_drop, h, drop_of ht] at e1
  simp only [mkKs, List.length_take, Nat.min_eq_left (Nat.le_of_lt hi)] at e1
  have e2 := congrArg (fun x => x[i]?) e1
  simp only [ht] at e2
  rw [List.getElem?_append_right (by rw [mkKs_len]; simp; omega), mkKs_len, List.length_take, Nat.min_eq_left (Nat.le_of_lt hi), Nat.sub_self, List.getElem?_cons_zero] at e2
  exact (Option.some.inj e2).symm
/-- The middle of a list turns. -/
theorem set_mid {α : Type} {a r : List α} {x y : α} {i : Nat} (h : a.length = i) : (a ++ x :: r).set i y = a ++ y :: r := by subst h; simp
theorem get_mid {α : Type} {a r : List α} {x d : α} {i : Nat} (h : a.length = i) : (a ++ x :: r).getD i d = x := by subst h; simp
mutual
theorem nmT_sz : ∀ {t : T} {left : Int}, 0 ≤ left → 0 ≤ szT t left → nmT t ≤ 3 + 3 * (left - szT t left)
  | .mk k n s ks l, left, h, h0 => by
    simp only [szT] at h0 ⊢
    split at h0
    · omega
    · rename_i c1
      rw [if_neg c1]
      split at h0
      · omega
      · rename_i c2
        rw [if_neg c2]
        split at h0
        · omega
        · rename_i c3
          rw [if_neg c3]
          have h1 := szStrS_le (ks := ks) (left := left - s.size) (by omega)
          have h2 : szStrS ks (left - s.size) ≤ left - s.size - ks.length := by
            have := h1; simp only [szStrS] at c2 ⊢; split
            · rename_i c; rw [if_pos c] at c2; omega
            · exact (szStr_le (by omega)).1
          have h3 := nmL_sz (l := l) (left := szStrS ks (left - s.size) - l.length) (by omega) h0
          simp only [nmT]; omega
theorem nmL_sz : ∀ {l : List T} {left : Int}, 0 ≤ left → 0 ≤ szTL l left → nmL l ≤ 3 * l.length + 3 * (left - szTL l left)
  | [], left, h, h0 => by simp [nmL, szTL]
  | t :: r, left, h, h0 => by
    simp only [szTL] at h0 ⊢
    split at h0
    · omega
    · rename_i c1
      rw [if_neg c1]
      have h1 := nmT_sz (t := t) h (by omega)
      have h2 := nmL_sz (l := r) (left := szT t left) (by omega) h0
      simp only [nmL, List.length_cons]; omega
end
end Go.Proofs.Pw
/- What is small enough by the laws' count fits. -/
namespace Go.Proofs.Pw
theorem szStr_fit : ∀ {ks : List ByteArray} {left : Int}, 0 ≤ left → 0 ≤ szStr ks left → ∀ s ∈ ks, (s.size : Int) ≤ left := by
  intro ks
  induction ks with
  | nil => intro left _ _ s hs; simp at hs
  | cons x r ih =>
    intro left h0 h s hs
    simp only [szStr] at h
    split at h
    · omega
    · rcases List.mem_cons.1 hs with rfl | hs
      · omega
      · have := ih (left := left - x.size) (by omega) h s hs; omega
theorem szStrS_fit {ks : List ByteArray} {left : Int} (h0 : 0 ≤ left) (hl : left ≤ 1048576) (h : 0 ≤ szStrS ks left) : strsFit 1048576 ks := by
  simp only [szStrS] at h
  split at h
  · omega
  · refine ⟨by unfold lenB; omega, fun s hs => ?_⟩
    have := szStr_fit (left := left - ks.length) (by omega) h s hs
    unfold lenB; omega
mutual
theorem szT_fit : ∀ {t : T} {left : Int} {B : Int}, 0 ≤ left → left ≤ 1048576 → t.fit B → 0 ≤ szT t left → t.fit 1048576 ∧ sizeT t ≤ left - szT t left + 1
  | .mk k n s ks l, left, B, h0, hl, hf, h => by
    simp only [T.fit] at hf ⊢
    simp only [szT, sizeT] at h ⊢
    have e1 := szStrS_le (ks := ks) (left := left - s.size)
    split at h
    · omega
    · split at h
      · omega
      · split at h
        · omega
        · rename_i a b c
          rw [if_neg a, if_neg b, if_neg c]
          have h1 := szStrS_fit (ks := ks) (left := left - s.size) (by omega) (by omega) (by omega)
          have h2 := szTL_fit (l := l) (B := B) (left := szStrS ks (left - s.size) - l.length) (by omega) (by omega) hf.2.2.2.2.2 h
          refine ⟨⟨hf.1, hf.2.1, by unfold lenB; omega, h1, by unfold lenB; omega, h2.1⟩, by omega⟩
theorem szTL_fit : ∀ {l : List T} {left : Int} {B : Int}, 0 ≤ left → left ≤ 1048576 → fitL B l → 0 ≤ szTL l left → fitL 1048576 l ∧ sizeL l ≤ left - szTL l left + l.length
  | [], left, B, h0, hl, hf, h => by simp [fitL, sizeL, szTL]
  | t :: r, left, B, h0, hl, hf, h => by
    simp only [fitL] at hf ⊢
    simp only [szTL, sizeL, List.length_cons] at h ⊢
    have e1 := szT_le (t := t) h0
    split at h
    · omega
    · rename_i a
      rw [if_neg a]
      have h1 := szT_fit (t := t) h0 hl hf.1 (by omega)
      have h2 := szTL_fit (l := r) (left := szT t left) (by omega) (by omega) hf.2 h
      exact ⟨⟨h1.1, h2.1⟩, by omega⟩
end
end Go.Proofs.Pw
namespace Go.Proofs.Pw
mutual
theorem szF_fit : ∀ {t : F} {left : Int} {B : Int}, 0 ≤ left → left ≤ 1048576 → t.fit B → 0 ≤ szF t left → t.fit 1048576 ∧ smallF t ∧ sizeF t ≤ left - szF t left + 1
  | .mk k n s v l, left, B, h0, hl, hf, h => by
    simp only [F.fit] at hf ⊢
    simp only [szF, sizeF, smallF] at h ⊢
    have e1 := szT_le (t := v) (left := left - s.size)
    split at h
    · omega
    · split at h
      · omega
      · split at h
        · omega
        · rename_i a b c
          rw [if_neg a, if_neg b, if_neg c]
          have h1 := szT_fit (t := v) (B := B) (left := left - s.size) (by omega) (by omega) hf.2.2.2.1 (by omega)
          have h2 := szFL_fit (l := l) (B := B) (left := szT v (left - s.size) - l.length) (by omega) (by omega) hf.2.2.2.2.2 h
          refine ⟨⟨hf.1, hf.2.1, by unfold lenB; omega, h1.1, by unfold lenB; omega, h2.1⟩, ⟨by omega, h2.2.1⟩, by omega⟩
theorem szFL_fit : ∀ {l : List F} {left : Int} {B : Int}, 0 ≤ left → left ≤ 1048576 → fitF B l → 0 ≤ szFL l left → fitF 1048576 l ∧ smallFL l ∧ sizeFL l ≤ left - szFL l left + l.length
  | [], left, B, h0, hl, hf, h => by simp [fitF, sizeFL, szFL, smallFL]
  | t :: r, left, B, h0, hl, hf, h => by
    simp only [fitF] at hf ⊢
    simp only [szFL, sizeFL, smallFL, List.length_cons] at h ⊢
    have e1 := szF_le (t := t) h0
    split at h
    · omega
    · rename_i a
      rw [if_neg a]
      have h1 := szF_fit (t := t) h0 hl hf.1 (by omega)
      have h2 := szFL_fit (l := r) (left := szF t left) (by omega) (by omega) hf.2 h
      exact ⟨⟨h1.1, h2.1⟩, ⟨h1.2.1, h2.2.1⟩, by omega⟩
end
end Go.Proofs.Pw
namespace Go.Proofs.Pw
end Go.Proofs.Pw
namespace Go.Proofs.Pw
section
set_option linter.unusedSectionVars false
variable {B B' : Int} (hB : B ≤ B')
include hB
theorem lenB_le {n : Nat} (h : lenB B n) : lenB B' n := by unfold lenB at *; omega
theorem strsFit_le {ks : List ByteArray} (h : strsFit B ks) : strsFit B' ks := ⟨lenB_le hB h.1, fun s hs => lenB_le hB (h.2 s hs)⟩
mutual
theorem T.fit_le : ∀ {t : T}, t.fit B → t.fit B'
  | .mk k n s ks l, h => by
    simp only [T.fit] at h ⊢
    exact ⟨h.1, h.2.1, lenB_le hB h.2.2.1, strsFit_le hB h.2.2.2.1, lenB_le hB h.2.2.2.2.1, fitL_le h.2.2.2.2.2⟩
theorem fitL_le : ∀ {l : List T}, fitL B l → fitL B' l
  | [], _ => trivial
  | t :: l, h => by
    simp only [fitL] at h ⊢
    exact ⟨T.fit_le h.1, fitL_le h.2⟩
end
mutual
theorem F.fit_le : ∀ {t : F}, t.fit B → t.fit B'
  | .mk k n s v l, h => by
    simp only [F.fit] at h ⊢
    exact ⟨h.1, h.2.1, lenB_le hB h.2.2.1, T.fit_le hB h.2.2.2.1, lenB_le hB h.2.2.2.2.1, fitF_le h.2.2.2.2.2⟩
theorem fitF_le : ∀ {l : List F}, fitF B l → fitF B' l
  | [], _ => trivial
  | t :: l, h => by
    simp only [fitF] at h ⊢
    exact ⟨F.fit_le h.1, fitF_le h.2⟩
end
theorem Tk.fit_le {t : Tk} (h : t.fit B) : t.fit B' := ⟨T.fit_le hB h.1, lenB_le hB h.2.1, fitF_le hB h.2.2⟩
theorem Gn.fit_le {g : Gn} (h : g.fit B) : g.fit B' := ⟨lenB_le hB h.1, fun t ht => Tk.fit_le hB (h.2.1 t ht), h.2.2⟩
end
end Go.Proofs.Pw
/- Ways in the laws' text: their size, and the marks on them. -/
namespace Go.Proofs.Pw
def szStpS (p : List Stp) (left : Int) : Int := szStrS (p.map Stp.key) left
theorem szStpS_le {p : List Stp} {left : Int} (h : 0 ≤ left) : szStpS p left ≤ left ∧ -1 ≤ szStpS p left := szStrS_le h
/-- The marks of one step. -/
def mkStp (k : Int) : Stp := ⟨decide (k.tmod 3 = 0), mkS (k + 1), k + 2⟩
def mkP : Nat → Int → List Stp
  | 0, _ => []
  | n + 1, k => mkP n k ++ [mkStp (k + 3 * n)]
theorem mkP_len (n : Nat) (k : Int) : (mkP n k).length = n := by
  induction n with
  | zero => rfl
  | succ n ih => simp [mkP, ih]
theorem szStpS_fit {p : List Stp} {left : Int} (h0 : 0 ≤ left) (hl : left ≤ 1048576) (hw : wayFit p) (h : 0 ≤ szStpS p left) : (p.length : Int) ≤ 1048576 ∧ ∀ s ∈ p, (s.key.size : Int) ≤ 1048576 := by
  unfold szStpS szStrS at h
  split at h
  · omega
  · rename_i h2
    simp only [List.length_map] at h h2
    refine ⟨by omega, fun s hs => ?_⟩
    have := szStr_fit (by omega) h s.key (List.mem_map_of_mem hs)
    omega
end Go.Proofs.Pw
