/- A key's place among keys in order; a tree put there. -/
import Derived.Test.YtaiacpgnnfinlaaDoorPwT14
import Derived.Test.YtaiacpgnnfinlaaDoorPwT10
import Derived.Lib.ItoaLen
import Derived.Lib.Join
import Derived.Test.YtaiacpgnnfinlaaDoorPwT13
import Derived.Test.YtaiacpgnnfinlaaDoorPwT11
set_option linter.unusedSimpArgs false
set_option linter.unusedVariables false
namespace Go.Proofs.Pw
/-- Keys in order, each once. -/
def Asc (ks : List ByteArray) : Prop := ks.Pairwise sl
theorem Asc.tail {k : ByteArray} {ks : List ByteArray} (h : Asc (k :: ks)) : Asc ks := (List.pairwise_cons.1 h).2
theorem Asc.head {k : ByteArray} {ks : List ByteArray} (h : Asc (k :: ks)) : ∀ s ∈ ks, sl k s := (List.pairwise_cons.1 h).1
end Go.Proofs.Pw
/- A tree that is ok is small. -/
namespace Go.Proofs.Pw
mutual
theorem form_many : ∀ (t : T) (d : Int), formT t d → manyT t d = sizeT t
  | .mk k n s ks l, d, h => by
    simp only [formT] at h
    simp only [manyT, sizeT]
    rw [formL_many l d h.1 h.2.2.2.2.2.2.2.2.2.2.2]
theorem formL_many : ∀ (l : List T) (d : Int), 1 ≤ d → formL l (d - 1) → manyL l d = sizeL l
  | [], d, _, _ => by simp [manyL, sizeL]
  | t :: l, d, hd, h => by
    simp only [formL] at h
    simp only [manyL, sizeL]
    rw [if_pos (by omega), form_many t (d - 1) h.1, formL_many l d hd h.2]
end
theorem okT_size {t : T} (h : okT t) : sizeT t ≤ 60 := by rw [← form_many t 6 h.1]; exact h.2
theorem sizeL_len : ∀ l : List T, (l.length : Int) ≤ sizeL l
  | [] => by simp [sizeL]
  | t :: l => by
    have h1 := sizeL_len l
    have h2 : 1 ≤ sizeT t := by obtain ⟨k, n, s, ks, r⟩ := t; have := manyL_le r 0; simp only [sizeT]; omega
    simp only [sizeL, List.length_cons]; omega
theorem sizeT_pos (t : T) : 1 ≤ sizeT t := by obtain ⟨k, n, s, ks, r⟩ := t; have := manyL_le r 0; simp only [sizeT]; omega
theorem sizeL_nn (l : List T) : 0 ≤ sizeL l := by have := manyL_le l 0; omega
mutual
theorem form_fit : ∀ (t : T) (d : Int), formT t d → sizeT t ≤ 60 → t.fit 60
  | .mk k n s ks l, d, h, hs => by
    simp only [formT] at h
    obtain ⟨h1, h2, h3, h4, h5, h6, h7, h8, h9, h10, h11, h12⟩ := h
    simp only [sizeT] at hs
    have hl := sizeL_len l
    have h13 := h10.2
    refine ⟨by unfold i64; omega, by unfold i64; omega, by unfold lenB; omega, ⟨?_, ?_⟩, by unfold lenB; omega, formL_fit l (d - 1) h12 (by omega)⟩
    · rcases h4 with rfl | rfl
      · have := (h11 rfl).1
        unfold lenB; omega
      · simp [lenB]
    · intro x hx
      rcases h4 with rfl | rfl
      · obtain ⟨i, hi⟩ := List.getElem?_of_mem hx
        have := (okKeys_at (h11 rfl).2 hi).2
        unfold lenB; omega
      · simp at hx
theorem formL_fit : ∀ (l : List T) (d : Int), formL l d → sizeL l ≤ 59 → fitL 60 l
  | [], _, _, _ => trivial
  | t :: l, d, h, hs => by
    simp only [formL] at h
    simp only [sizeL] at hs
    have h1 := sizeT_pos t
    have h2 := sizeL_nn l
    exact ⟨form_fit t d h.1 (by omega), formL_fit l d h.2 (by omega)⟩
end
end Go.Proofs.Pw
/- Texts of trees, as both programs write them. -/
namespace Go.Proofs.Pw
open Go
def bL (l : List UInt8) : ByteArray := ⟨l.toArray⟩
theorem bL_size (l : List UInt8) : (bL l).size = l.length := by simp [bL, ByteArray.size]
theorem bL_toList (l : List UInt8) : (bL l).data.toList = l := by simp [bL]
theorem ba_assoc (a b c : ByteArray) : a ++ b ++ c = a ++ (b ++ c) := ByteArray.append_assoc
theorem ba_nil (a : ByteArray) : ⟨#[]⟩ ++ a = a := by
  apply ByteArray.ext
  simp [ByteArray.data_append]
theorem ba_nil' (a : ByteArray) : a ++ ⟨#[]⟩ = a := by
  apply ByteArray.ext
  simp [ByteArray.data_append]
def itoaB (n : Int) : ByteArray := bL (Lib.itoa n)
def joinB (xs : List ByteArray) (sep : ByteArray) : ByteArray := bL (Lib.join (xs.map (·.data.toList)) sep.data.toList)
theorem itoaB_size {n : Int} (h0 : -9223372036854775808 ≤ n) (h1 : n ≤ 9223372036854775807) : (itoaB n).size ≤ 21 := by
  unfold itoaB
  rw [bL_size]; exact Lib.itoa_length_le n h0 h1
theorem joinB_nil (sep : ByteArray) : joinB [] sep = ⟨#[]⟩ := rfl
def lensB : List ByteArray → Nat
  | [] => 0
  | x :: r => x.size + lensB r
theorem lensB_app (a b : List ByteArray) : lensB (a ++ b) = lensB a + lensB b := by
  induction a with
  | nil => simp [lensB]
  | cons x a ih => simp only [List.cons_append, lensB, ih]; omega
theorem ba_len (x : ByteArray) : x.data.toList.length = x.size := Array.length_toList
theorem lensB_eq (xs : List ByteArray) : Lib.lens (xs.map (·.data.toList)) = lensB xs := by
  induction xs with
  | nil => rfl
  | cons x r ih =>
    simp only [Lib.lens, List.map_cons, List.sum_cons, lensB] at ih ⊢
    rw [ih, ba_len]
theorem joinB_size (sep : ByteArray) (xs : List ByteArray) : (joinB xs sep).size ≤ lensB xs + xs.length * sep.size := by
  cases xs with
  | nil => rw [joinB_nil]; exact Nat.zero_le _
  | cons x r =>
    unfold joinB
    rw [bL_size, List.map_cons, Lib.join_cons, List.length_append, Lib.joinTail_length, lensB_eq]
    simp only [List.length_map, lensB, List.length_cons, Nat.add_mul, Nat.one_mul]
    have e1 : x.data.toList.length = x.size := ba_len x
    have e2 : sep.data.toList.length = sep.size := ba_len sep
    rw [e1, e2, Nat.mul_comm sep.size]; omega
mutual
def textT : T → ByteArray
  | .mk k n s ks l => if k = 0 then ⟨#[110, 117, 108, 108]⟩ else if k = 1 then ⟨#[102, 97, 108, 115, 101]⟩ else if k = 2 then ⟨#[116, 114, 117, 101]⟩ else if k = 3 then itoaB n
    else if k = 4 then ⟨#[39]⟩ ++ s ++ ⟨#[39]⟩ else if k = 6 then ⟨#[123]⟩ ++ joinB (textLs k ks l) ⟨#[44]⟩ ++ ⟨#[125]⟩ else ⟨#[91]⟩ ++ joinB (textLs k ks l) ⟨#[44]⟩ ++ ⟨#[93]⟩
def textLs (k : Int) : List ByteArray → List T → List ByteArray
  | _, [] => []
  | ks, t :: l => (if k = 6 then ks.headD ⟨#[]⟩ ++ ⟨#[58]⟩ ++ textT t else textT t) :: textLs k ks.tail l
end
theorem textLs_len (k : Int) : ∀ (ks : List ByteArray) (l : List T), (textLs k ks l).length = l.length
  | _, [] => by simp [textLs]
  | ks, t :: l => by simp [textLs, textLs_len k ks.tail l]
theorem textLs_take (k : Int) : ∀ (l : List T) (ks : List ByteArray) (i : Nat) (t : T), l[i]? = some t → (textLs k ks l).take (i + 1) = (textLs k ks l).take i ++ [if k = 6 then ks.getD i ⟨#[]⟩ ++ ⟨#[58]⟩ ++ textT t else textT t]
  | [], _, _, _, h => by simp at h
  | x :: l, ks, 0, t, h => by
    simp at h; subst h
    cases ks <;> simp [textLs]
  | x :: l, ks, i + 1, t, h => by
    have := textLs_take k l ks.tail i t (by simpa using h)
    simp only [textLs, List.take_succ_cons, List.cons_append]
    rw [this]
    cases ks <;> simp
mutual
theorem textT_size : ∀ {t : T} {d : Int}, formT t d → ((textT t).size : Int) + 14 ≤ 40 * sizeT t
  | .mk k n s ks l, d, h => by
    simp only [formT] at h
    obtain ⟨h1, h2, h3, h4, h5, h6, h7, h8, h9, h10, h11, h12⟩ := h
    have hs := h10.2
    have hn := itoaB_size (n := n) (by omega) (by omega)
    have hl := textLs_size (k := k) (ks := ks) (fun s hs => by
      rcases h4 with h4 | h4
      · obtain ⟨i, hi⟩ := List.getElem?_of_mem hs
        exact (okKeys_at (h11 h4).2 hi).2
      · subst h4; simp at hs) h12
    have hp := sizeL_nn l
    have hj := joinB_size ⟨#[44]⟩ (textLs k ks l)
    rw [textLs_len] at hj
    have hc : (ByteArray.mk #[44]).size = 1 := rfl
    rw [hc] at hj
    have e1 : (ByteArray.mk #[39]).size = 1 := rfl
    have e2 : (ByteArray.mk #[123]).size = 1 := rfl
    have e3 : (ByteArray.mk #[125]).size = 1 := rfl
    have e4 : (ByteArray.mk #[91]).size = 1 := rfl
    have e5 : (ByteArray.mk #[93]).size = 1 := rfl
    have e6 : (ByteArray.mk #[110, 117, 108, 108]).size = 4 := rfl
    have e7 : (ByteArray.mk #[102, 97, 108, 115, 101]).size = 5 := rfl
    have e8 : (ByteArray.mk #[116, 114, 117, 101]).size = 4 := rfl
    simp only [textT, sizeT]
    repeat' split
    all_goals try simp only [ByteArray.size_append, e1, e2, e3, e4, e5, e6, e7, e8]
    all_goals omega
theorem textLs_size {k : Int} : ∀ {ks : List ByteArray} {l : List T} {d : Int}, (∀ s ∈ ks, s.size ≤ 12) → formL l d → (lensB (textLs k ks l) : Int) + l.length ≤ 40 * sizeL l
  | _, [], _, _, _ => by simp [textLs, lensB, sizeL]
  | ks, t :: l, d, hk, h => by
    simp only [formL] at h
    have h1 := textT_size h.1
    have h2 := textLs_size (k := k) (ks := ks.tail) (fun s hs => hk s (List.mem_of_mem_tail hs)) h.2
    have h3 : (ks.headD ⟨#[]⟩).size ≤ 12 := by
      cases ks with
      | nil => decide
      | cons a r => exact hk a (by simp)
    have e1 : (ByteArray.mk #[58]).size = 1 := rfl
    simp only [textLs, lensB, sizeL, List.length_cons]
    split
    · rw [ByteArray.size_append, ByteArray.size_append, e1]; omega
    · omega
end
theorem sizeL_mem' {l : List T} {t : T} (h : t ∈ l) : sizeT t ≤ sizeL l := by
  induction l with
  | nil => simp at h
  | cons x l ih =>
    have := sizeL_nn l; have := sizeT_pos x
    simp only [sizeL]
    rcases List.mem_cons.1 h with rfl | h
    · omega
    · have := ih h; omega
theorem len_sizeL : ∀ l : List T, (l.length : Int) ≤ sizeL l
  | [] => by simp [sizeL]
  | t :: l => by have := sizeT_pos t; have := len_sizeL l; simp only [List.length_cons, sizeL]; omega
theorem lensB_take (l : List ByteArray) (i : Nat) : lensB (l.take i) ≤ lensB l := by
  have h := lensB_app (l.take i) (l.drop i)
  rw [List.take_append_drop] at h
  omega
theorem sep_size : (ByteArray.mk #[44]).size = 1 := rfl
theorem join_take {k : Int} {ks : List ByteArray} {l : List T} {d : Int} (hk : ∀ s ∈ ks, s.size ≤ 12) (h : formL l d) (hs : sizeL l ≤ 60) (i : Nat) : (joinB ((textLs k ks l).take i) ⟨#[44]⟩).size ≤ 2400 := by
  have h1 := textLs_size (k := k) (ks := ks) hk h
  have h2 := joinB_size ⟨#[44]⟩ ((textLs k ks l).take i)
  have h3 := lensB_take (textLs k ks l) i
  have h4 : ((textLs k ks l).take i).length ≤ l.length := by rw [List.length_take, textLs_len]; omega
  rw [sep_size] at h2
  omega
theorem keys_small {k n : Int} {s : ByteArray} {ks : List ByteArray} {l : List T} {d : Int} (h : formT (.mk k n s ks l) d) : ∀ s ∈ ks, s.size ≤ 12 := fun s hs => by
  simp only [formT] at h
  obtain ⟨h1, h2, h3, h4, h5, h6, h7, h8, h9, h10, h11, h12⟩ := h
  rcases h4 with h4 | h4
  · obtain ⟨i, hi⟩ := List.getElem?_of_mem hs
    exact (okKeys_at (h11 h4).2 hi).2
  · subst h4; simp at hs
/-! Numbers. -/
/-! Texts of filters. -/
def wtab : List ByteArray := [⟨#[]⟩, ⟨#[46]⟩, ⟨#[]⟩, ⟨#[]⟩, ⟨#[]⟩, ⟨#[91, 93]⟩, ⟨#[112, 105, 112, 101]⟩, ⟨#[98, 111, 116, 104]⟩, ⟨#[105, 102]⟩, ⟨#[97, 100, 100]⟩, ⟨#[108, 101, 115, 115]⟩, ⟨#[115, 97, 109, 101]⟩, ⟨#[114, 111, 119]⟩, ⟨#[108, 101, 110]⟩, ⟨#[107, 101, 121, 115]⟩, ⟨#[110, 111, 116]⟩, ⟨#[101, 108, 115, 101]⟩, ⟨#[116, 114, 121]⟩, ⟨#[110, 111, 110, 101]⟩, ⟨#[98, 97, 100]⟩, ⟨#[116, 117, 114, 110]⟩, ⟨#[]⟩]
def wtabC : C := .row 1 (strs wtab)
theorem wtab_at {i : Nat} (h : i < 22) : wtab[i]? = some (wtab.getD i ⟨#[]⟩) := by
  have h' : i < wtab.length := h
  simp [List.getD, List.getElem?_eq_getElem h']
theorem wtab_size : ∀ i : Fin 22, (wtab.getD i.val ⟨#[]⟩).size ≤ 4 := by decide
def headB (k n : Int) (s : ByteArray) (v : T) : ByteArray :=
  if k = 2 then ⟨#[61]⟩ ++ textT v else if k = 3 then ⟨#[46]⟩ ++ s ++ ⟨#[58]⟩ else if k = 4 then ⟨#[91]⟩ ++ itoaB n ++ ⟨#[93]⟩ else if k = 21 then ⟨#[109, 97, 107, 101, 58]⟩ ++ s else wtab.getD k.toNat ⟨#[]⟩
mutual
def textF : F → ByteArray
  | .mk k n s v l => headB k n s v ++ textFs l
def textFs : List F → ByteArray
  | [] => ⟨#[]⟩
  | t :: l => ⟨#[32]⟩ ++ textF t ++ textFs l
end
theorem textFs_app : ∀ a b : List F, textFs (a ++ b) = textFs a ++ textFs b
  | [], b => by simp [textFs, ba_nil]
  | t :: a, b => by simp only [List.cons_append, textFs, textFs_app a b, ba_assoc]
theorem textFs_take {l : List F} {i : Nat} {t : F} (h : l[i]? = some t) : textFs (l.take (i + 1)) = textFs (l.take i) ++ (⟨#[32]⟩ ++ textF t) := by
  rw [List.take_add_one, h, textFs_app]
  simp [textFs, ba_nil']
theorem headB_size {k n : Int} {s : ByteArray} {v : T} (hk : 0 ≤ k ∧ k ≤ 21) (hn : -60 ≤ n ∧ n < 60) (hs : s.size ≤ 12) (hv : okT v) : (headB k n s v).size ≤ 2402 := by
  have h1 := textT_size hv.1
  have h2 := okT_size hv
  have h3 := itoaB_size (n := n) (by omega) (by omega)
  have h4 := wtab_size ⟨k.toNat, by omega⟩
  simp only at h4
  have e1 : (ByteArray.mk #[61]).size = 1 := rfl
  have e2 : (ByteArray.mk #[46]).size = 1 := rfl
  have e3 : (ByteArray.mk #[58]).size = 1 := rfl
  have e4 : (ByteArray.mk #[91]).size = 1 := rfl
  have e5 : (ByteArray.mk #[93]).size = 1 := rfl
  have e6 : (ByteArray.mk #[109, 97, 107, 101, 58]).size = 5 := rfl
  unfold headB
  repeat' split
  all_goals try simp only [ByteArray.size_append, e1, e2, e3, e4, e5, e6]
  all_goals omega
mutual
theorem textF_size : ∀ {t : F} {d : Int}, formF t d → ((textF t).size : Int) + 1 ≤ 2500 * sizeF t
  | .mk k n s v l, d, h => by
    simp only [formF] at h
    obtain ⟨h1, h2, h3, h4, h5, h6, h7, h8, h9⟩ := h
    have h10 := kidsOf_range (show 0 ≤ kidsOf k by omega)
    have a := headB_size (s := s) (v := v) (show 0 ≤ k ∧ k ≤ 21 by omega) ⟨h5, h6⟩ h4.2 h7
    have b := textFs_size h8
    have c := manyFL_le l 0
    simp only [textF, sizeF, ByteArray.size_append]; omega
theorem textFs_size : ∀ {l : List F} {d : Int}, formFL l d → ((textFs l).size : Int) ≤ 2500 * sizeFL l
  | [], _, _ => by simp [textFs, sizeFL, ByteArray.size]
  | t :: l, d, h => by
    simp only [formFL] at h
    have h1 := textF_size h.1
    have h2 := textFs_size h.2
    have e1 : (ByteArray.mk #[32]).size = 1 := rfl
    simp only [textFs, sizeFL, ByteArray.size_append, e1]; omega
end
theorem len_sizeFL : ∀ l : List F, (l.length : Int) ≤ sizeFL l
  | [] => by simp [sizeFL]
  | .mk _ _ _ _ r :: l => by have := manyFL_le r 0; have := len_sizeFL l; simp only [List.length_cons, sizeFL, sizeF]; omega
theorem formFL_take {l : List F} {d : Int} (h : formFL l d) (i : Nat) : formFL (l.take i) d := formFL_mem.2 fun t ht => formFL_mem.1 h t (List.mem_of_mem_take ht)
theorem sizeFL_take : ∀ (l : List F) (i : Nat), sizeFL (l.take i) ≤ sizeFL l
  | [], i => by simp [sizeFL]
  | t :: l, 0 => by have := manyFL_le (t :: l) 0; simp only [List.take_zero, sizeFL] at *; omega
  | t :: l, i + 1 => by have := sizeFL_take l i; simp only [List.take_succ_cons, sizeFL]; omega
def okTF (t : F) : Prop := (∃ d, formF t d) ∧ sizeF t ≤ 16
theorem okTF_of {t : F} (h : okF t) : okTF t := ⟨⟨_, h.1⟩, by rw [← manyF_size _ _ h.1]; exact h.2⟩
theorem okTF_kid {k n : Int} {s : ByteArray} {v : T} {l : List F} (h : okTF (.mk k n s v l)) {t : F} (ht : t ∈ l) : okTF t := by
  obtain ⟨⟨d, h1⟩, h2⟩ := h
  simp only [formF] at h1
  simp only [sizeF] at h2
  obtain ⟨i, hi⟩ := List.getElem?_of_mem ht
  exact ⟨⟨_, formFL_mem.1 h1.2.2.2.2.2.2.2.1 t ht⟩, by have := sizeFL_at hi; omega⟩
theorem okTF_size {t : F} (h : okTF t) : (textF t).size ≤ 40000 := by
  obtain ⟨⟨d, h1⟩, h2⟩ := h
  have := textF_size h1; omega
noncomputable def filtText (t : F) : ByteArray := if okF t then textF t else ⟨#[]⟩
end Go.Proofs.Pw
/- Whether two filters are the same; how many parts a filter has: the specification's functions and the program's. -/
set_option linter.unusedSimpArgs false
set_option maxRecDepth 20000
namespace Go.Proofs.Pw
set_option linter.unusedSectionVars false
variable [Globs]
def x_FiltAlike : X := (.seq (.reg [⟨some 2, none, .box (.t 0) (some 9)⟩, ⟨some 3, none, .box (.t 1) (some 9)⟩, ⟨some 4, none, .mv (.k (.c (.bool false)))⟩] none [2, 3]) (.seq (.seq (.reg [⟨some 6, none, .fa (.t 2) 0⟩, ⟨some 7, none, .load (.t 6) none⟩, ⟨some 8, none, .fa (.t 3) 0⟩, ⟨some 9, none, .load (.t 8) none⟩, ⟨some 10, none, .bin false .neq (.t 7) (.t 9)⟩, ⟨some 11, none, .mv (.t 10)⟩, ⟨some 12, some (11, false), .fa (.t 2) 1⟩, ⟨some 13, some (11, false), .load (.t 12) none⟩, ⟨some 14, some (11, false), .fa (.t 3) 1⟩, ⟨some 15, some (11, false), .load (.t 14) none⟩, ⟨some 16, some (11, false), .bin false .neq (.t 13) (.t 15)⟩, ⟨some 17, none, .pick (.t 11) (.k (.c (.bool true))) (.t 16)⟩, ⟨some 18, none, .mv (.t 17)⟩, ⟨some 19, some (18, false), .fa (.t 2) 2⟩, ⟨some 20, some (18, false), .load (.t 19) none⟩, ⟨some 21, some (18, false), .fa (.t 3) 2⟩, ⟨some 22, some (18, false), .load (.t 21) none⟩, ⟨some 23, some (18, false), .bin false .neq (.t 20) (.t 22)⟩, ⟨some 24, none, .pick (.t 18) (.k (.c (.bool true))) (.t 23)⟩, ⟨some 25, none, .mv (.t 24)⟩, ⟨some 26, some (25, false), .fa (.t 2) 3⟩, ⟨some 27, some (25, false), .load (.t 26) (some 5)⟩, ⟨some 28, some (25, false), .fa (.t 3) 3⟩, ⟨some 29, some (25, false), .load (.t 28) (some 5)⟩, ⟨some 30, some (25, false), .call 20 [(.t 27), (.t 29)]⟩, ⟨some 31, some (25, false), .not (.t 30)⟩, ⟨some 32, none, .pick (.t 25) (.k (.c (.bool true))) (.t 31)⟩, ⟨some 33, none, .mv (.t 32)⟩, ⟨some 34, some (33, false), .fa (.t 2) 8⟩, ⟨some 35, some (33, false), .load (.t 34) none⟩, ⟨some 36, some (33, false), .len (.t 35) false⟩, ⟨some 37, some (33, false), .fa (.t 3) 8⟩, ⟨some 38, some (33, false), .load (.t 37) none⟩, ⟨some 39, some (33, false), .len (.t 38) false⟩, ⟨some 40, some (33, false), .bin false .neq (.t 36) (.t 39)⟩, ⟨some 41, none, .pick (.t 33) (.k (.c (.bool true))) (.t 40)⟩] none [2, 3, 41]) (.cond (.t 41) (.seq (.reg [⟨some 4, none, .mv (.k (.c (.bool false)))⟩] none [4]) .ret) .skip)) (.seq (.seq (.reg [⟨some 5, none, .mv (.k (.c (.int .i64 0)))⟩] none [2, 3, 5]) (.block 0 (.loop (.seq (.seq (.reg [⟨some 42, none, .mv (.t 5)⟩, ⟨some 43, none, .fa (.t 2) 8⟩, ⟨some 44, none, .load (.t 43) none⟩, ⟨some 45, none, .len (.t 44) false⟩, ⟨some 46, none, .bin false .lss (.t 42) (.t 45)⟩] none [2, 3, 5, 46]) (.cond (.t 46) .skip (.exit 0))) (.seq (.block 1 (.seq (.reg [⟨some 49, none, .fa (.t 2) 8⟩, ⟨some 50, none, .load (.t 49) none⟩, ⟨some 51, none, .mv (.t 5)⟩, ⟨some 52, none, .ia (.t 50) (.t 51) 9⟩, ⟨some 53, none, .load (.t 52) (some 9)⟩, ⟨some 54, none, .fa (.t 3) 8⟩, ⟨some 55, none, .load (.t 54) none⟩, ⟨some 56, none, .mv (.t 5)⟩, ⟨some 57, none, .ia (.t 55) (.t 56) 9⟩, ⟨some 58, none, .load (.t 57) (some 9)⟩, ⟨some 59, none, .call 10 [(.t 53), (.t 58)]⟩, ⟨some 60, none, .not (.t 59)⟩] (some 10) [2, 3, 5, 60]) (.cond (.t 60) (.seq (.reg [⟨some 4, none, .mv (.k (.c (.bool false)))⟩] none [4]) .ret) .skip))) (.reg [⟨some 47, none, .mv (.t 5)⟩, ⟨some 48, none, .bin false .add (.t 47) (.k (.c (.int .i64 1)))⟩, ⟨some 5, none, .mv (.t 48)⟩] none [2, 3, 5])))))) (.seq (.reg [⟨some 4, none, .mv (.k (.c (.bool true)))⟩] none [4]) .ret))))
theorem chk_FiltAlike : chkX Go.Proofs.Tryd.prog 61 (Go.Proofs.Tryd.f10.body.getD .skip) x_FiltAlike = true := by kernel_rfl
theorem rs_FiltAlike : okRs Go.Proofs.Tryd.prog Go.Proofs.Tryd.f10.results.toList [.tmp 4] = true := by kernel_rfl
theorem call_FiltAlike : okCallee Go.Proofs.Tryd.prog 10 = true := by kernel_rfl
def x_FiltAlikeI : X := (.seq (.reg [⟨some 2, none, .box (.t 0) (some 9)⟩, ⟨some 3, none, .box (.t 1) (some 9)⟩, ⟨some 4, none, .mv (.k (.c (.bool false)))⟩] none [2, 3]) (.seq (.reg [⟨some 5, none, .fa (.t 2) 0⟩, ⟨some 6, none, .load (.t 5) none⟩, ⟨some 7, none, .fa (.t 3) 0⟩, ⟨some 8, none, .load (.t 7) none⟩, ⟨some 9, none, .bin false .eql (.t 6) (.t 8)⟩, ⟨some 10, none, .mv (.t 9)⟩, ⟨some 11, some (10, true), .fa (.t 2) 1⟩, ⟨some 12, some (10, true), .load (.t 11) none⟩, ⟨some 13, some (10, true), .fa (.t 3) 1⟩, ⟨some 14, some (10, true), .load (.t 13) none⟩, ⟨some 15, some (10, true), .bin false .eql (.t 12) (.t 14)⟩, ⟨some 16, none, .pick (.t 10) (.t 15) (.k (.c (.bool false)))⟩, ⟨some 17, none, .mv (.t 16)⟩, ⟨some 18, some (17, true), .fa (.t 2) 2⟩, ⟨some 19, some (17, true), .load (.t 18) none⟩, ⟨some 20, some (17, true), .fa (.t 3) 2⟩, ⟨some 21, some (17, true), .load (.t 20) none⟩, ⟨some 22, some (17, true), .bin false .eql (.t 19) (.t 21)⟩, ⟨some 23, none, .pick (.t 17) (.t 22) (.k (.c (.bool false)))⟩, ⟨some 24, none, .mv (.t 23)⟩, ⟨some 25, some (24, true), .fa (.t 2) 3⟩, ⟨some 26, some (24, true), .load (.t 25) (some 5)⟩, ⟨some 27, some (24, true), .fa (.t 3) 3⟩, ⟨some 28, some (24, true), .load (.t 27) (some 5)⟩, ⟨some 29, some (24, true), .call 18 [(.t 26), (.t 28)]⟩, ⟨some 30, none, .pick (.t 24) (.t 29) (.k (.c (.bool false)))⟩, ⟨some 31, none, .mv (.t 30)⟩, ⟨some 32, some (31, true), .fa (.t 2) 8⟩, ⟨some 33, some (31, true), .load (.t 32) none⟩, ⟨some 34, some (31, true), .fa (.t 3) 8⟩, ⟨some 35, some (31, true), .load (.t 34) none⟩, ⟨some 36, some (31, true), .call 19 [(.t 33), (.t 35), (.k (.c (.fn 9)))]⟩, ⟨some 37, none, .pick (.t 31) (.t 36) (.k (.c (.bool false)))⟩, ⟨some 4, none, .mv (.t 37)⟩] none [4]) .ret))
theorem chk_FiltAlikeI : chkX Go.Proofs.Tryd.prog 38 (Go.Proofs.Tryd.f9.body.getD .skip) x_FiltAlikeI = true := by kernel_rfl
theorem rs_FiltAlikeI : okRs Go.Proofs.Tryd.prog Go.Proofs.Tryd.f9.results.toList [.tmp 4] = true := by kernel_rfl
theorem call_FiltAlikeI : okCallee Go.Proofs.Tryd.prog 9 = true := by kernel_rfl
def x_EqualFF : X := (.seq (.reg [⟨some 6, none, .mv (.k (.c (.bool false)))⟩] none [0, 1, 2]) (.seq (.seq (.reg [⟨some 10, none, .mv (.t 0)⟩, ⟨some 11, none, .len (.t 10) false⟩, ⟨some 12, none, .mv (.t 1)⟩, ⟨some 13, none, .len (.t 12) false⟩, ⟨some 14, none, .bin false .neq (.t 11) (.t 13)⟩] none [0, 1, 2, 14]) (.cond (.t 14) (.seq (.reg [⟨some 6, none, .mv (.k (.c (.bool false)))⟩] none [6]) .ret) .skip)) (.seq (.seq (.reg [⟨some 15, none, .mv (.t 0)⟩, ⟨some 16, none, .len (.t 15) false⟩, ⟨some 17, none, .mv (.k (.c (.int .i64 0)))⟩] none [1, 2, 15, 16, 17]) (.block 0 (.loop (.seq (.reg [⟨some 18, none, .bin false .lss (.t 17) (.t 16)⟩] none [1, 2, 15, 16, 17, 18]) (.seq (.cond (.t 18) .skip (.exit 0)) (.seq (.block 1 (.seq (.reg [⟨some 19, none, .mv (.t 17)⟩, ⟨some 20, none, .ia (.t 15) (.t 17) 9⟩, ⟨some 21, none, .load (.t 20) (some 9)⟩, ⟨some 8, none, .alloc [(.c (.int .i64 0)), (.c (.int .i64 0)), (.c (.str ⟨#[]⟩)), (.c (.int .i64 0)), (.c (.int .i64 0)), (.c (.str ⟨#[]⟩)), (.z 1), (.z 5), (.z 9)]⟩, ⟨some 7, none, .mv (.t 19)⟩, ⟨none, none, .st (.t 8) (.t 21) (some 9)⟩] none [1, 2, 7, 8, 15, 16, 17]) (.seq (.reg [⟨some 22, none, .mv (.t 1)⟩, ⟨some 23, none, .mv (.t 7)⟩, ⟨some 24, none, .ia (.t 22) (.t 23) 9⟩, ⟨some 25, none, .load (.t 24) (some 9)⟩, ⟨some 9, none, .alloc [(.c (.int .i64 0)), (.c (.int .i64 0)), (.c (.str ⟨#[]⟩)), (.c (.int .i64 0)), (.c (.int .i64 0)), (.c (.str ⟨#[]⟩)), (.z 1), (.z 5), (.z 9)]⟩, ⟨none, none, .st (.t 9) (.t 25) (some 9)⟩] none [1, 2, 8, 9, 15, 16, 17]) (.seq (.reg [⟨some 26, none, .mv (.t 2)⟩, ⟨some 27, none, .load (.t 8) (some 9)⟩, ⟨some 28, none, .load (.t 9) (some 9)⟩, ⟨some 29, none, .calli (.t 26) [(.t 27), (.t 28)]⟩, ⟨some 30, none, .not (.t 29)⟩] none [1, 2, 15, 16, 17, 30]) (.cond (.t 30) (.seq (.reg [⟨some 6, none, .mv (.k (.c (.bool false)))⟩] none [6]) .ret) .skip))))) (.reg [⟨some 31, none, .bin false .add (.t 17) (.k (.c (.int .i64 1)))⟩, ⟨some 17, none, .mv (.t 31)⟩] none [1, 2, 15, 16, 17]))))))) (.seq (.reg [⟨some 6, none, .mv (.k (.c (.bool true)))⟩] none [6]) .ret))))
theorem chk_EqualFF : chkX Go.Proofs.Tryd.prog 32 (Go.Proofs.Tryd.f19.body.getD .skip) x_EqualFF = true := by kernel_rfl
theorem rs_EqualFF : okRs Go.Proofs.Tryd.prog Go.Proofs.Tryd.f19.results.toList [.tmp 6] = true := by kernel_rfl
theorem call_EqualFF : okCallee Go.Proofs.Tryd.prog 19 = true := by kernel_rfl
def x_manyF : X := (.seq (.reg [⟨some 1, none, .box (.t 0) (some 9)⟩, ⟨some 2, none, .mv (.k (.c (.int .i64 0)))⟩] none [1]) (.seq (.reg [⟨some 3, none, .mv (.k (.c (.int .i64 1)))⟩] none [1, 3]) (.seq (.seq (.reg [⟨some 6, none, .fa (.t 1) 8⟩, ⟨some 7, none, .load (.t 6) none⟩, ⟨some 8, none, .len (.t 7) false⟩, ⟨some 9, none, .mv (.k (.c (.int .i64 0)))⟩] none [3, 7, 8, 9]) (.block 0 (.loop (.seq (.reg [⟨some 10, none, .bin false .lss (.t 9) (.t 8)⟩] none [3, 7, 8, 9, 10]) (.seq (.cond (.t 10) .skip (.exit 0)) (.seq (.block 1 (.seq (.reg [⟨some 11, none, .ia (.t 7) (.t 9) 9⟩, ⟨some 12, none, .load (.t 11) (some 9)⟩, ⟨some 5, none, .alloc [(.c (.int .i64 0)), (.c (.int .i64 0)), (.c (.str ⟨#[]⟩)), (.c (.int .i64 0)), (.c (.int .i64 0)), (.c (.str ⟨#[]⟩)), (.z 1), (.z 5), (.z 9)]⟩, ⟨none, none, .st (.t 5) (.t 12) (some 9)⟩] none [3, 5, 7, 8, 9]) (.reg [⟨some 13, none, .mv (.t 3)⟩, ⟨some 14, none, .load (.t 5) (some 9)⟩, ⟨some 15, none, .call 15 [(.t 14)]⟩, ⟨some 16, none, .bin false .add (.t 13) (.t 15)⟩, ⟨some 3, none, .mv (.t 16)⟩] none [3, 7, 8, 9]))) (.reg [⟨some 17, none, .bin false .add (.t 9) (.k (.c (.int .i64 1)))⟩, ⟨some 9, none, .mv (.t 17)⟩] none [3, 7, 8, 9]))))))) (.seq (.reg [⟨some 18, none, .mv (.t 3)⟩, ⟨some 2, none, .mv (.t 18)⟩] none [2]) .ret))))
theorem chk_manyF : chkX Go.Proofs.Tryd.prog 19 (Go.Proofs.Tryd.f15.body.getD .skip) x_manyF = true := by kernel_rfl
theorem rs_manyF : okRs Go.Proofs.Tryd.prog Go.Proofs.Tryd.f15.results.toList [.tmp 2] = true := by kernel_rfl
theorem call_manyF : okCallee Go.Proofs.Tryd.prog 15 = true := by kernel_rfl
def x_FiltMany : X := (.seq (.reg [⟨some 1, none, .box (.t 0) (some 9)⟩, ⟨some 2, none, .mv (.k (.c (.int .i64 0)))⟩] none [1]) (.seq (.seq (.reg [⟨some 3, none, .load (.t 1) (some 9)⟩, ⟨some 4, none, .call 8 [(.t 3)]⟩, ⟨some 5, none, .not (.t 4)⟩] none [1, 5]) (.cond (.t 5) (.seq (.reg [⟨some 2, none, .mv (.k (.c (.int .i64 0)))⟩] none [2]) .ret) .skip)) (.seq (.reg [⟨some 6, none, .load (.t 1) (some 9)⟩, ⟨some 7, none, .call 16 [(.t 6), (.k (.c (.int .i64 7)))]⟩, ⟨some 2, none, .mv (.t 7)⟩] none [2]) .ret)))
theorem chk_FiltMany : chkX Go.Proofs.Tryd.prog 8 (Go.Proofs.Tryd.f7.body.getD .skip) x_FiltMany = true := by kernel_rfl
theorem rs_FiltMany : okRs Go.Proofs.Tryd.prog Go.Proofs.Tryd.f7.results.toList [.tmp 2] = true := by kernel_rfl
theorem call_FiltMany : okCallee Go.Proofs.Tryd.prog 7 = true := by kernel_rfl
def x_FiltManyI : X := (.seq (.reg [⟨some 1, none, .box (.t 0) (some 9)⟩, ⟨some 2, none, .mv (.k (.c (.int .i64 0)))⟩] none [1]) (.seq (.seq (.reg [⟨some 3, none, .load (.t 1) (some 9)⟩, ⟨some 4, none, .call 11 [(.t 3)]⟩, ⟨some 5, none, .not (.t 4)⟩] none [1, 5]) (.cond (.t 5) (.seq (.reg [⟨some 2, none, .mv (.k (.c (.int .i64 0)))⟩] none [2]) .ret) .skip)) (.seq (.reg [⟨some 6, none, .load (.t 1) (some 9)⟩, ⟨some 7, none, .call 15 [(.t 6)]⟩, ⟨some 2, none, .mv (.t 7)⟩] none [2]) .ret)))
theorem chk_FiltManyI : chkX Go.Proofs.Tryd.prog 8 (Go.Proofs.Tryd.f6.body.getD .skip) x_FiltManyI = true := by kernel_rfl
theorem rs_FiltManyI : okRs Go.Proofs.Tryd.prog Go.Proofs.Tryd.f6.results.toList [.tmp 2] = true := by kernel_rfl
theorem call_FiltManyI : okCallee Go.Proofs.Tryd.prog 6 = true := by kernel_rfl
theorem sizeFL_nn (l : List F) : 0 ≤ sizeFL l := by
  have := manyFL_le l 0; omega
theorem sizeF_pos (t : F) : 1 ≤ sizeF t := by
  obtain ⟨k, n, s, v, l⟩ := t
  have := sizeFL_nn l
  simp only [sizeF]; omega
noncomputable def spFMany1 (k:Nat) : Spec := Spec.of (ι := F) [false] (fun i => [.d (.agg i.enc)]) (fun i => (sizeF i ≤ 1048577 ∧ i.fit 140737488355328) ∧ SizeOf.sizeOf i < k) (fun i => [.d (.one (.int .i64 (sizeF i)))]) (fun _ => [.gone])
theorem spFMany1_inj : ∀ i j : F, (fun (i : F) => ([.d (.agg i.enc)] : List AV)) i = (fun (i : F) => ([.d (.agg i.enc)] : List AV)) j → i = j := by
  intro t t' h
  simpa [strs_eq, T.enc_eq, encL_eq, F.enc_eq, encF_eq, Tk.enc_eq, encTk_eq, Gn.enc_eq, ints_eq] using h
theorem spFMany1_md (k:Nat) : (spFMany1 k).md = [false] := rfl
theorem spFMany1_pre (k:Nat) (t : F) : (spFMany1 k).pre [.d (.agg t.enc)] = ((sizeF t ≤ 1048577 ∧ t.fit 140737488355328) ∧ SizeOf.sizeOf t < k) := Spec.of_pre' spFMany1_inj t
theorem spFMany1_alts (k:Nat) : (spFMany1 k).alts = none := rfl
theorem spFMany1_res (k:Nat) (t : F) : (spFMany1 k).res [.d (.agg t.enc)] = [.d (.one (.int .i64 (sizeF t)))] := Spec.of_res spFMany1_inj t
theorem spFMany1_out (k:Nat) (t : F) : (spFMany1 k).out [.d (.agg t.enc)] = [.gone] := Spec.of_out spFMany1_inj t
theorem manyFI_sound (k : Nat) (hS : Sound Go.Proofs.Tryd.prog 15 (spFMany1 k)) : Sound Go.Proofs.Tryd.prog 15 (spFMany1 (k + 1)) := by
  refine sound_fam (GOK.cons call_manyF hS GOK.nil) Go.Proofs.Tryd.func15 (c := Go.Proofs.Tryd.f15.body.getD .skip) rfl (n := 19) rfl chk_manyF rs_manyF (fun _ => by simp) ?_ ?_
  · exact spFMany1_inj
  · rintro t ⟨⟨h1, h2⟩, h4⟩
    obtain ⟨kk, n, s, v, l⟩ := t
    obtain ⟨vk, vn, vs, vks, vl⟩ := v
    have e3 : SizeOf.sizeOf l < k := by have e : SizeOf.sizeOf (F.mk kk n s (T.mk vk vn vs vks vl) l) < k + 1 := h4
                                        rw [F.mk.sizeOf_spec] at e; omega
    clear h4
    simp only [F.fit] at h2
    obtain ⟨_, _, f1, f2, f3, f4⟩ := h2
    simp only [lenB] at f3
    replace h1 : 1 + sizeFL l ≤ 1048577 := h1
    have hs : sizeF (F.mk kk n s (T.mk vk vn vs vks vl) l) = 1 + sizeFL l := rfl
    simp only [x_manyF, F.enc, T.enc, List.cons_append, List.nil_append, rg, go_sem, seval, Prod.fst, encF_len]
    repeat' (first | with_reducible assumption | with_reducible refine And.intro ?_ ?_ | intro _)
    all_goals first | omega | skip
    refine pw_loop (ι := Nat) (fun i => l.length - i) (fun i => i ≤ l.length)
      (fun i => ⟨[(3, .q (.c (.int .i64 (1 + sizeFL (l.take i))))), (7, .q (.c (.row 9 (encF l)))), (8, .q (.c (.int .i64 l.length))), (9, .q (.c (.int .i64 i)))], [], []⟩) 0 (Nat.zero_le _) ?_ ?_
    · exact Le.sub (by simp [sizeFL]) (by simp) (by simp)
    intro i hi
    rcases Nat.lt_or_ge i l.length with hlt | hge
    · obtain ⟨t, ht, _, hmem⟩ := drop_at hlt
      have a1 := encF_at ht
      have a2 : ((i : Int) < (l.length : Int)) = True := by simp; omega
      have a3 := fitF_mem f4 t hmem
      have a4 := size_mem hmem
      have a6 := F.enc_len t
      have a7 : sizeFL (l.take (i + 1)) ≤ sizeFL l := sizeFL_take l (i + 1)
      have a8 : sizeFL (l.take (i + 1)) = sizeFL (l.take i) + sizeF t := by rw [List.take_add_one, ht, sizeFL_app]; simp [sizeFL]
      have a9 := sizeF_pos t
      have a10 : 0 ≤ sizeFL (l.take i) := sizeFL_nn _
      simp only [rg, go_sem, seval, Prod.fst, a1, a2, a6, encF_len, spFMany1_md, spFMany1_pre, spFMany1_alts, spFMany1_res, spFMany1_out]
      repeat' (first | with_reducible assumption | with_reducible refine And.intro ?_ ?_ | intro _)
      all_goals first | omega | with_reducible assumption | skip
      refine ⟨i + 1, hlt, by omega, ?_⟩
      exact Le.sub (by simp [a8]; omega) (by simp) (by simp)
    · have a2 : ((i : Int) < (l.length : Int)) = False := by simp; omega
      have a3 : l.take i = l := List.take_of_length_le hge
      simp only [rg, go_sem, seval, Prod.fst, a2, a3, encF_len, hs]
theorem manyFI_all (k : Nat) : Sound Go.Proofs.Tryd.prog 15 (spFMany1 k) := by
  induction k with
  | zero => exact Sound.none
  | succ k ih => exact manyFI_sound k ih
noncomputable def spFManyV  : Spec := Spec.of (ι := F) [false] (fun i => [.d (.agg i.enc)]) (fun i => sizeF i ≤ 1048577 ∧ i.fit 140737488355328) (fun i => [.d (.one (.int .i64 (sizeF i)))]) (fun _ => [.gone])
theorem spFManyV_inj : ∀ i j : F, (fun (i : F) => ([.d (.agg i.enc)] : List AV)) i = (fun (i : F) => ([.d (.agg i.enc)] : List AV)) j → i = j := by
  intro t t' h
  simpa [strs_eq, T.enc_eq, encL_eq, F.enc_eq, encF_eq, Tk.enc_eq, encTk_eq, Gn.enc_eq, ints_eq] using h
theorem spFManyV_md  : (spFManyV).md = [false] := rfl
theorem spFManyV_pre  (t : F) : (spFManyV).pre [.d (.agg t.enc)] = (sizeF t ≤ 1048577 ∧ t.fit 140737488355328) := Spec.of_pre' spFManyV_inj t
theorem spFManyV_alts  : (spFManyV).alts = none := rfl
theorem spFManyV_res  (t : F) : (spFManyV).res [.d (.agg t.enc)] = [.d (.one (.int .i64 (sizeF t)))] := Spec.of_res spFManyV_inj t
theorem spFManyV_out  (t : F) : (spFManyV).out [.d (.agg t.enc)] = [.gone] := Spec.of_out spFManyV_inj t
theorem manyFIV_sound : Sound Go.Proofs.Tryd.prog 15 spFManyV := Sound.all (μ := fun i => SizeOf.sizeOf i) manyFI_all
noncomputable def spFiltMany  : Spec := Spec.of (ι := F) [false] (fun i => [.d (.agg i.enc)]) (fun i => sizeF i ≤ 1048577 ∧ smallF i ∧ i.fit 140737488355328) (fun i => [.d (.one (.int .i64 (if okF i then sizeF i else 0)))]) (fun _ => [.gone])
theorem spFiltMany_inj : ∀ i j : F, (fun (i : F) => ([.d (.agg i.enc)] : List AV)) i = (fun (i : F) => ([.d (.agg i.enc)] : List AV)) j → i = j := by
  intro t t' h
  simpa [strs_eq, T.enc_eq, encL_eq, F.enc_eq, encF_eq, Tk.enc_eq, encTk_eq, Gn.enc_eq, ints_eq] using h
theorem spFiltMany_md  : (spFiltMany).md = [false] := rfl
theorem spFiltMany_pre  (t : F) : (spFiltMany).pre [.d (.agg t.enc)] = (sizeF t ≤ 1048577 ∧ smallF t ∧ t.fit 140737488355328) := Spec.of_pre' spFiltMany_inj t
theorem spFiltMany_alts  : (spFiltMany).alts = none := rfl
theorem spFiltMany_res  (t : F) : (spFiltMany).res [.d (.agg t.enc)] = [.d (.one (.int .i64 (if okF t then sizeF t else 0)))] := Spec.of_res spFiltMany_inj t
theorem spFiltMany_out  (t : F) : (spFiltMany).out [.d (.agg t.enc)] = [.gone] := Spec.of_out spFiltMany_inj t
theorem FiltManyI_sound (hG : get? 0 Globs.G = some ktabC) : Sound Go.Proofs.Tryd.prog 6 spFiltMany := by
  refine sound_fam (GOK.cons (l := [(15, spFManyV)]) call_FiltOkI (filtOkI_sound hG) (GOK.cons call_manyF manyFIV_sound GOK.nil)) Go.Proofs.Tryd.func6 (c := Go.Proofs.Tryd.f6.body.getD .skip) rfl (n := 8) rfl chk_FiltManyI rs_FiltManyI (fun _ => by simp) ?_ ?_
  · exact spFiltMany_inj
  · rintro t ⟨h1, h3, h2⟩
    by_cases c : okF t
    · have e : ((okFI t 1 16).1 = true) = True := eq_true ((okFI_iff t).2 c)
      simp only [x_FiltManyI, rg, go_sem, seval, Prod.fst, F.enc_len, e, c, if_true, spFiltOkI_md, spFiltOkI_pre, spFiltOkI_alts, spFiltOkI_res, spFiltOkI_out, spFManyV_md, spFManyV_pre, spFManyV_alts, spFManyV_res, spFManyV_out]
      repeat' (first | with_reducible assumption | with_reducible refine And.intro ?_ ?_ | intro _)
      all_goals first | omega | with_reducible assumption | skip
    · have e : ((okFI t 1 16).1 = true) = False := eq_false (fun h => c ((okFI_iff t).1 h))
      simp only [x_FiltManyI, rg, go_sem, seval, Prod.fst, F.enc_len, e, c, if_false, spFiltOkI_md, spFiltOkI_pre, spFiltOkI_alts, spFiltOkI_res, spFiltOkI_out]
      repeat' (first | with_reducible assumption | with_reducible refine And.intro ?_ ?_ | intro _)
      all_goals first | omega | with_reducible assumption | skip
theorem FiltMany_sound : Sound Go.Proofs.Tryd.prog 7 spFiltMany := by
  refine sound_fam (GOK.cons (l := [(16, spManyFV)]) call_FiltOk sOkF_sound (GOK.cons call_l4Many manyFV_sound GOK.nil)) Go.Proofs.Tryd.func7 (c := Go.Proofs.Tryd.f7.body.getD .skip) rfl (n := 8) rfl chk_FiltMany rs_FiltMany (fun _ => by simp) ?_ ?_
  · exact spFiltMany_inj
  · rintro t ⟨h1, h3, h2⟩
    by_cases c : okF t
    · have e : okF t = True := eq_true c
      have e2 : manyF t 7 = sizeF t := manyF_size t 7 c.1
      simp only [x_FiltMany, rg, go_sem, seval, Prod.fst, F.enc_len, e, e2, if_true, spOkF_md, spOkF_pre, spOkF_alts, spOkF_res, spOkF_out, spManyFV_md, spManyFV_pre, spManyFV_alts, spManyFV_res, spManyFV_out]
      repeat' (first | with_reducible assumption | with_reducible refine And.intro ?_ ?_ | intro _)
      all_goals first | omega | with_reducible assumption | skip
    · have e : okF t = False := eq_false c
      simp only [x_FiltMany, rg, go_sem, seval, Prod.fst, F.enc_len, e, if_false, spOkF_md, spOkF_pre, spOkF_alts, spOkF_res, spOkF_out]
      repeat' (first | with_reducible assumption | with_reducible refine And.intro ?_ ?_ | intro _)
      all_goals first | omega | with_reducible assumption | skip
noncomputable def spAlikeI (k:Nat) : Spec := Spec.of (ι := F × F) [false, false] (fun i => [.d (.agg i.1.enc), .d (.agg i.2.enc)]) (fun i => (i.1.fit 140737488355328 ∧ i.2.fit 140737488355328) ∧ SizeOf.sizeOf i.1 < k) (fun i => [.d (.one (.bool (decide (i.1 = i.2))))]) (fun _ => [.gone, .gone])
theorem spAlikeI_inj : ∀ i j : F × F, (fun (i : F × F) => ([.d (.agg i.1.enc), .d (.agg i.2.enc)] : List AV)) i = (fun (i : F × F) => ([.d (.agg i.1.enc), .d (.agg i.2.enc)] : List AV)) j → i = j := by
  rintro ⟨a, b⟩ ⟨a', b'⟩ h
  simp only [Prod.mk.injEq]
  simpa [strs_eq, T.enc_eq, encL_eq, F.enc_eq, encF_eq, Tk.enc_eq, encTk_eq, Gn.enc_eq, ints_eq] using h
theorem spAlikeI_md (k:Nat) : (spAlikeI k).md = [false, false] := rfl
theorem spAlikeI_pre (k:Nat) (a : F) (b : F) : (spAlikeI k).pre [.d (.agg a.enc), .d (.agg b.enc)] = ((a.fit 140737488355328 ∧ b.fit 140737488355328) ∧ SizeOf.sizeOf a < k) := Spec.of_pre' spAlikeI_inj (a, b)
theorem spAlikeI_alts (k:Nat) : (spAlikeI k).alts = none := rfl
theorem spAlikeI_res (k:Nat) (a : F) (b : F) : (spAlikeI k).res [.d (.agg a.enc), .d (.agg b.enc)] = [.d (.one (.bool (decide (a = b))))] := Spec.of_res spAlikeI_inj (a, b)
theorem spAlikeI_out (k:Nat) (a : F) (b : F) : (spAlikeI k).out [.d (.agg a.enc), .d (.agg b.enc)] = [.gone, .gone] := Spec.of_out spAlikeI_inj (a, b)
noncomputable def spEqualFF (k:Nat) : Spec := Spec.of (ι := (List Pw.F) × (List Pw.F)) [false, false, false] (fun i => [.d (.one (.row 9 (encF i.1))), .d (.one (.row 9 (encF i.2))), .d (.one (.fn 9))]) (fun i => (lenB 140737488355328 i.1.length ∧ fitF 140737488355328 i.1 ∧ lenB 140737488355328 i.2.length ∧ fitF 140737488355328 i.2) ∧ SizeOf.sizeOf i.1 < k) (fun i => [.d (.one (.bool (decide (i.1 = i.2))))]) (fun _ => [.gone, .gone, .gone])
theorem spEqualFF_inj : ∀ i j : (List Pw.F) × (List Pw.F), (fun (i : (List Pw.F) × (List Pw.F)) => ([.d (.one (.row 9 (encF i.1))), .d (.one (.row 9 (encF i.2))), .d (.one (.fn 9))] : List AV)) i = (fun (i : (List Pw.F) × (List Pw.F)) => ([.d (.one (.row 9 (encF i.1))), .d (.one (.row 9 (encF i.2))), .d (.one (.fn 9))] : List AV)) j → i = j := by
  rintro ⟨a, b⟩ ⟨a', b'⟩ h
  simp only [Prod.mk.injEq]
  simpa [strs_eq, T.enc_eq, encL_eq, F.enc_eq, encF_eq, Tk.enc_eq, encTk_eq, Gn.enc_eq, ints_eq] using h
theorem spEqualFF_md (k:Nat) : (spEqualFF k).md = [false, false, false] := rfl
theorem spEqualFF_pre (k:Nat) (a : List Pw.F) (b : List Pw.F) : (spEqualFF k).pre [.d (.one (.row 9 (encF a))), .d (.one (.row 9 (encF b))), .d (.one (.fn 9))] = ((lenB 140737488355328 a.length ∧ fitF 140737488355328 a ∧ lenB 140737488355328 b.length ∧ fitF 140737488355328 b) ∧ SizeOf.sizeOf a < k) := Spec.of_pre' spEqualFF_inj (a, b)
theorem spEqualFF_alts (k:Nat) : (spEqualFF k).alts = none := rfl
theorem spEqualFF_res (k:Nat) (a : List Pw.F) (b : List Pw.F) : (spEqualFF k).res [.d (.one (.row 9 (encF a))), .d (.one (.row 9 (encF b))), .d (.one (.fn 9))] = [.d (.one (.bool (decide (a = b))))] := Spec.of_res spEqualFF_inj (a, b)
theorem spEqualFF_out (k:Nat) (a : List Pw.F) (b : List Pw.F) : (spEqualFF k).out [.d (.one (.row 9 (encF a))), .d (.one (.row 9 (encF b))), .d (.one (.fn 9))] = [.gone, .gone, .gone] := Spec.of_out spEqualFF_inj (a, b)
theorem alikeI_sound (k : Nat) (hS : Sound Go.Proofs.Tryd.prog 19 (spEqualFF k)) : Sound Go.Proofs.Tryd.prog 9 (spAlikeI (k + 1)) := by
  refine sound_fam (GOK.cons (l := [(19, spEqualFF k)]) call_ValSameI sameIV_sound (GOK.cons call_EqualFF hS GOK.nil)) Go.Proofs.Tryd.func9 (c := Go.Proofs.Tryd.f9.body.getD .skip) rfl (n := 38) rfl chk_FiltAlikeI rs_FiltAlikeI (fun _ => by simp) ?_ ?_
  · exact spAlikeI_inj
  · rintro ⟨a, b⟩ ⟨⟨h1, h2⟩, h4⟩
    obtain ⟨kk, n, s, v, l⟩ := a
    obtain ⟨vk, vn, vs, vks, vl⟩ := v
    obtain ⟨kk', n', s', v', l'⟩ := b
    obtain ⟨vk', vn', vs', vks', vl'⟩ := v'
    have p1 := spSameIV_pre (T.mk vk vn vs vks vl) (T.mk vk' vn' vs' vks' vl')
    have p2 := spSameIV_res (T.mk vk vn vs vks vl) (T.mk vk' vn' vs' vks' vl')
    have p3 := spSameIV_out (T.mk vk vn vs vks vl) (T.mk vk' vn' vs' vks' vl')
    generalize hv : T.mk vk vn vs vks vl = v at *
    generalize hv' : T.mk vk' vn' vs' vks' vl' = v' at *
    have q : v.enc = [.int .i64 vk, .int .i64 vn, .str vs, .row 1 (strs vks), .row 5 (encL vl)] := by rw [← hv]; rfl
    have q' : v'.enc = [.int .i64 vk', .int .i64 vn', .str vs', .row 1 (strs vks'), .row 5 (encL vl')] := by rw [← hv']; rfl
    simp only [F.fit] at h1 h2
    obtain ⟨_, _, f1, f2, f3, f4⟩ := h1
    obtain ⟨_, _, g1, g2, g3, g4⟩ := h2
    have e3 : SizeOf.sizeOf l < k := by have e : SizeOf.sizeOf (F.mk kk n s v l) < k + 1 := h4
                                        rw [F.mk.sizeOf_spec] at e; omega
    clear h4
    simp only [q, q'] at p1 p2 p3
    simp only [x_FiltAlikeI, F.enc, q, q', List.cons_append, List.nil_append, go_sem, seval, rg, F.mk.injEq, p1, p2, p3, spSameIV_md, spSameIV_alts, spEqualFF_md, spEqualFF_pre, spEqualFF_alts, spEqualFF_res, spEqualFF_out]
    repeat' (first | with_reducible assumption | with_reducible refine And.intro ?_ ?_ | intro _)
    all_goals first | omega | (grind; done) | skip
theorem equalFF_sound (k : Nat) (hS : Sound Go.Proofs.Tryd.prog 9 (spAlikeI k)) : Sound Go.Proofs.Tryd.prog 19 (spEqualFF (k + 1)) := by
  refine sound_fam (GOK.cons call_FiltAlikeI hS GOK.nil) Go.Proofs.Tryd.func19 (c := Go.Proofs.Tryd.f19.body.getD .skip) rfl (n := 32) rfl chk_EqualFF rs_EqualFF (fun _ => by simp) ?_ ?_
  · exact spEqualFF_inj
  · rintro ⟨a, b⟩ ⟨h1, h3⟩
    simp only at h3
    simp only [lenB] at h1
    have fa := fitF_mem h1.2.1
    have fb := fitF_mem h1.2.2.2
    by_cases hl : a.length = b.length
    · have b1 : ((a.length : Int) = (b.length : Int)) = True := by simp [hl]
      simp only [x_EqualFF, rg, go_sem, seval, b1]
      refine pw_loop (ι := Nat) (fun i => a.length - i) (fun i => i ≤ a.length ∧ a.take i = b.take i)
        (fun i => ⟨[(1, .q (.c (.row 9 (encF b)))), (2, .q (.c (.fn 9))), (15, .q (.c (.row 9 (encF a)))), (16, .q (.c (.int .i64 a.length))), (17, .q (.c (.int .i64 i)))], [], []⟩) 0 ⟨Nat.zero_le _, rfl⟩ (Le.refl _) ?_
      rintro i ⟨hi, heq⟩
      rcases Nat.lt_or_ge i a.length with hlt | hge
      · obtain ⟨s, hs, _, hmem⟩ := drop_at hlt
        obtain ⟨s', hs', _, hmem'⟩ := drop_at (l := b) (i := i) (by omega)
        have a1 := encF_at hs
        have a1' := encF_at hs'
        have a2 : ((i : Int) < (a.length : Int)) = True := by simp; omega
        have a3 : ((i : Int) < (b.length : Int)) = True := by simp; omega
        have a4 := fa s hmem
        have a5 := fb s' hmem'
        have a6 := F.enc_len s
        have a6' := F.enc_len s'
        have a8 := size_mem hmem
        by_cases hc : s = s'
        · have c1 : (s = s') = True := by simp [hc]
          simp only [go_sem, seval, rg, a1, a1', a2, a3, a6, a6', c1, spAlikeI_md, spAlikeI_pre, spAlikeI_alts, spAlikeI_res, spAlikeI_out]
          repeat' (first | with_reducible assumption | with_reducible refine And.intro ?_ ?_ | intro _)
          all_goals first | omega | skip
          exact ⟨i + 1, ⟨by omega, take_at hs (hc ▸ hs') heq⟩, by omega, Le.sub (fun _ h => h) (fun _ h => by cases h) (fun _ h => h)⟩
        · have c1 : (s = s') = False := by simp [hc]
          simp only [go_sem, seval, rg, a1, a1', a2, a3, a6, a6', c1, spAlikeI_md, spAlikeI_pre, spAlikeI_alts, spAlikeI_res, spAlikeI_out]
          repeat' (first | with_reducible assumption | with_reducible refine And.intro ?_ ?_ | intro _)
          all_goals first | omega | skip
          rename_i h; exact ne_at hs hs' hc h
      · have a2 : ((i : Int) < (a.length : Int)) = False := by simp; omega
        have hie : i = a.length := by omega
        subst hie
        simp only [go_sem, seval, a2]
        exact take_all hl heq
    · have b1 : ((a.length : Int) = (b.length : Int)) = False := by simp; omega
      simp only [x_EqualFF, rg, go_sem, seval, b1]
      exact fun e => hl (by rw [e])
theorem alikeI_all (k : Nat) : Sound Go.Proofs.Tryd.prog 9 (spAlikeI k) ∧ Sound Go.Proofs.Tryd.prog 19 (spEqualFF k) := by
  induction k with
  | zero => exact ⟨Sound.none, Sound.none⟩
  | succ k ih => exact ⟨alikeI_sound k ih.2, equalFF_sound k ih.1⟩
noncomputable def spAlikeV  : Spec := Spec.of (ι := F × F) [false, false] (fun i => [.d (.agg i.1.enc), .d (.agg i.2.enc)]) (fun i => i.1.fit 140737488355328 ∧ i.2.fit 140737488355328) (fun i => [.d (.one (.bool (decide (i.1 = i.2))))]) (fun _ => [.gone, .gone])
theorem spAlikeV_inj : ∀ i j : F × F, (fun (i : F × F) => ([.d (.agg i.1.enc), .d (.agg i.2.enc)] : List AV)) i = (fun (i : F × F) => ([.d (.agg i.1.enc), .d (.agg i.2.enc)] : List AV)) j → i = j := by
  rintro ⟨a, b⟩ ⟨a', b'⟩ h
  simp only [Prod.mk.injEq]
  simpa [strs_eq, T.enc_eq, encL_eq, F.enc_eq, encF_eq, Tk.enc_eq, encTk_eq, Gn.enc_eq, ints_eq] using h
theorem spAlikeV_md  : (spAlikeV).md = [false, false] := rfl
theorem spAlikeV_pre  (a : F) (b : F) : (spAlikeV).pre [.d (.agg a.enc), .d (.agg b.enc)] = (a.fit 140737488355328 ∧ b.fit 140737488355328) := Spec.of_pre' spAlikeV_inj (a, b)
theorem spAlikeV_alts  : (spAlikeV).alts = none := rfl
theorem spAlikeV_res  (a : F) (b : F) : (spAlikeV).res [.d (.agg a.enc), .d (.agg b.enc)] = [.d (.one (.bool (decide (a = b))))] := Spec.of_res spAlikeV_inj (a, b)
theorem spAlikeV_out  (a : F) (b : F) : (spAlikeV).out [.d (.agg a.enc), .d (.agg b.enc)] = [.gone, .gone] := Spec.of_out spAlikeV_inj (a, b)
theorem alikeIV_sound : Sound Go.Proofs.Tryd.prog 9 spAlikeV := Sound.all (μ := fun i => SizeOf.sizeOf i.1) (fun k => (alikeI_all k).1)
theorem alike_sound (k : Nat) (hS : Sound Go.Proofs.Tryd.prog 10 (spAlikeI k)) : Sound Go.Proofs.Tryd.prog 10 (spAlikeI (k + 1)) := by
  refine sound_fam (GOK.cons (l := [(10, spAlikeI k)]) call_ValSame sameV_sound (GOK.cons call_FiltAlike hS GOK.nil)) Go.Proofs.Tryd.func10 (c := Go.Proofs.Tryd.f10.body.getD .skip) rfl (n := 61) rfl chk_FiltAlike rs_FiltAlike (fun _ => by simp) ?_ ?_
  · exact spAlikeI_inj
  · rintro ⟨a, b⟩ ⟨⟨h1, h2⟩, h4⟩
    obtain ⟨kk, n, s, v, l⟩ := a
    obtain ⟨vk, vn, vs, vks, vl⟩ := v
    obtain ⟨kk', n', s', v', l'⟩ := b
    obtain ⟨vk', vn', vs', vks', vl'⟩ := v'
    have p1 := spSameV_pre (T.mk vk vn vs vks vl) (T.mk vk' vn' vs' vks' vl')
    have p2 := spSameV_res (T.mk vk vn vs vks vl) (T.mk vk' vn' vs' vks' vl')
    have p3 := spSameV_out (T.mk vk vn vs vks vl) (T.mk vk' vn' vs' vks' vl')
    generalize hv : T.mk vk vn vs vks vl = v at *
    generalize hv' : T.mk vk' vn' vs' vks' vl' = v' at *
    have q : v.enc = [.int .i64 vk, .int .i64 vn, .str vs, .row 1 (strs vks), .row 5 (encL vl)] := by rw [← hv]; rfl
    have q' : v'.enc = [.int .i64 vk', .int .i64 vn', .str vs', .row 1 (strs vks'), .row 5 (encL vl')] := by rw [← hv']; rfl
    simp only [F.fit] at h1 h2
    obtain ⟨_, _, f1, f2, f3, f4⟩ := h1
    obtain ⟨_, _, g1, g2, g3, g4⟩ := h2
    simp only [lenB] at f3 g3
    have e3 : SizeOf.sizeOf l < k := by have e : SizeOf.sizeOf (F.mk kk n s v l) < k + 1 := h4
                                        rw [F.mk.sizeOf_spec] at e; omega
    clear h4
    simp only [q, q'] at p1 p2 p3
    have c2 : l = l' → l.length = l'.length := fun h => by rw [h]
    simp only [x_FiltAlike, F.enc, q, q', List.cons_append, List.nil_append, go_sem, seval, rg, F.mk.injEq, p1, p2, p3, spSameV_md, spSameV_alts]
    repeat' (first | with_reducible assumption | with_reducible refine And.intro ?_ ?_ | intro _)
    all_goals first | omega | (grind; done) | skip
    have hl' : l.length = l'.length := by grind
    have hb : (kk = kk' ∧ n = n' ∧ s = s' ∧ v = v' ∧ l = l') ↔ (l = l') := by grind
    clear c2 p1 p2 p3
    repeat (rename_i hx; clear hx)
    refine pw_loop (ι := Nat) (fun i => l.length - i) (fun i => i ≤ l.length ∧ l.take i = l'.take i)
      (fun i => ⟨[(2, .q (.box 2 0)), (3, .q (.box 3 0)), (5, .q (.c (.int .i64 i)))], [(2, [.c (.int .i64 kk), .c (.int .i64 n), .c (.str s), .c (.int .i64 vk), .c (.int .i64 vn), .c (.str vs), .c (.row 1 (strs vks)), .c (.row 5 (encL vl)), .c (.row 9 (encF l))]),
        (3, [.c (.int .i64 kk'), .c (.int .i64 n'), .c (.str s'), .c (.int .i64 vk'), .c (.int .i64 vn'), .c (.str vs'), .c (.row 1 (strs vks')), .c (.row 5 (encL vl')), .c (.row 9 (encF l'))])], []⟩) 0 ⟨Nat.zero_le _, rfl⟩ (Le.refl _) ?_
    rintro i ⟨hi, heq⟩
    rcases Nat.lt_or_ge i l.length with hlt | hge
    · obtain ⟨x, hx, _, hmem⟩ := drop_at hlt
      obtain ⟨x', hx', _, hmem'⟩ := drop_at (l := l') (i := i) (by omega)
      have a1 := encF_at hx
      have a1' := encF_at hx'
      have a2 : ((i : Int) < (l.length : Int)) = True := by simp; omega
      have a3 : ((i : Int) < (l'.length : Int)) = True := by simp; omega
      have a4 := fitF_mem f4 x hmem
      have a5 := fitF_mem g4 x' hmem'
      have a6 := F.enc_len x
      have a6' := F.enc_len x'
      have a8 := size_mem hmem
      by_cases hc : x = x'
      · have c1 : (x = x') = True := by simp [hc]
        simp only [go_sem, seval, Prod.fst, rg, a1, a1', a2, a3, a6, a6', c1, spAlikeI_md, spAlikeI_pre, spAlikeI_alts, spAlikeI_res, spAlikeI_out]
        repeat' (first | with_reducible assumption | with_reducible refine And.intro ?_ ?_ | intro _)
        all_goals first | omega | skip
        exact ⟨i + 1, ⟨by omega, take_at hx (hc ▸ hx') heq⟩, by omega, Le.refl _⟩
      · have c1 : (x = x') = False := by simp [hc]
        have hne := ne_at hx hx' hc
        simp only [go_sem, seval, Prod.fst, rg, a1, a1', a2, a3, a6, a6', c1, spAlikeI_md, spAlikeI_pre, spAlikeI_alts, spAlikeI_res, spAlikeI_out]
        repeat' (first | with_reducible assumption | with_reducible refine And.intro ?_ ?_ | intro _)
        all_goals first | omega | skip
        rename_i h; exact hne (hb.1 h)
    · have a2 : ((i : Int) < (l.length : Int)) = False := by simp; omega
      have hie : i = l.length := by omega
      subst hie
      have hls := take_all hl' heq
      simp only [go_sem, seval, a2]
      exact hb.2 hls
theorem alike_all : ∀ k, Sound Go.Proofs.Tryd.prog 10 (spAlikeI k) := fun k => Nat.rec Sound.none (fun k ih => alike_sound k ih) k
theorem alikeV_sound : Sound Go.Proofs.Tryd.prog 10 spAlikeV := Sound.all (μ := fun i => SizeOf.sizeOf i.1) alike_all
end Go.Proofs.Pw
