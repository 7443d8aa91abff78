/- Rows, grouped by what stands under a key. -/
import Derived.Test.YtlgjkdaembipoaaDoorPwT11
import Derived.Test.YtlgjkdaembipoaaDoorPwT10
import Derived.Lib.ItoaLen
import Derived.Lib.Join
import Derived.Shelf.Strings.Builder1
import Derived.Shelf.Strings.Builder2
import Derived.Shelf.Strings.OnBuilder
import Derived.Shelf.Strconv.Itoa0
import Derived.Shelf.Strconv.Itoa1
import Derived.Shelf.LaysM
import Derived.Shelf.Strconv.Itoa2
import Derived.Shelf.Strconv.Itoa3
import Derived.Test.YtlgjkdaembipoaaDoorProg
import Derived.KernelRfl
set_option linter.unusedSimpArgs false
set_option linter.unusedVariables false
namespace Go.Proofs.Pw
set_option linter.unusedSectionVars false
variable [Globs]
/-- Where in a list of keys a key is, from i on. -/
def idxS (x : ByteArray) : Nat → List ByteArray → Int
  | _, [] => -1
  | i, y :: r => if x = y then i else idxS x (i + 1) r
open Classical in
/-- What stands under a key. -/
noncomputable def getT (key : ByteArray) (v : T) : T := if v.kind = 6 ∧ 0 ≤ idxS key 0 v.keys then v.list.getD (idxS key 0 v.keys).toNat T.zero else T.zero
def getOk (v : T) : Prop := v.kind = 6 ∨ v.kind = 0
noncomputable instance (v : T) : Decidable (getOk v) := Classical.propDecidable _
noncomputable def marks (key : ByteArray) (l : List T) : List T := l.map (getT key)
def byOk (v : T) (key : ByteArray) : Prop := rowT v ∧ okS key ∧ ∀ x ∈ v.list, getOk x
noncomputable instance (v : T) (key : ByteArray) : Decidable (byOk v key) := Classical.propDecidable _
end Go.Proofs.Pw
/- A key's place among keys in order; a tree put there. -/
namespace Go.Proofs.Pw
/-- Keys in order, each once. -/
def Asc (ks : List ByteArray) : Prop := ks.Pairwise sl
theorem Asc.tail {k : ByteArray} {ks : List ByteArray} (h : Asc (k :: ks)) : Asc ks := (List.pairwise_cons.1 h).2
theorem Asc.head {k : ByteArray} {ks : List ByteArray} (h : Asc (k :: ks)) : ∀ s ∈ ks, sl k s := (List.pairwise_cons.1 h).1
end Go.Proofs.Pw
/- A tree that is ok is small. -/
namespace Go.Proofs.Pw
mutual
theorem form_many : ∀ (t : T) (d : Int), formT t d → manyT t d = sizeT t
  | .mk k n s ks l, d, h => by
    simp only [formT] at h
    simp only [manyT, sizeT]
    rw [formL_many l d h.1 h.2.2.2.2.2.2.2.2.2.2.2]
theorem formL_many : ∀ (l : List T) (d : Int), 1 ≤ d → formL l (d - 1) → manyL l d = sizeL l
  | [], d, _, _ => by simp [manyL, sizeL]
  | t :: l, d, hd, h => by
    simp only [formL] at h
    simp only [manyL, sizeL]
    rw [if_pos (by omega), form_many t (d - 1) h.1, formL_many l d hd h.2]
end
theorem okT_size {t : T} (h : okT t) : sizeT t ≤ 60 := by rw [← form_many t 6 h.1]; exact h.2
theorem sizeL_len : ∀ l : List T, (l.length : Int) ≤ sizeL l
  | [] => by simp [sizeL]
  | t :: l => by
    have h1 := sizeL_len l
    have h2 : 1 ≤ sizeT t := by obtain ⟨k, n, s, ks, r⟩ := t; have := manyL_le r 0; simp only [sizeT]; omega
    simp only [sizeL, List.length_cons]; omega
theorem sizeT_pos (t : T) : 1 ≤ sizeT t := by obtain ⟨k, n, s, ks, r⟩ := t; have := manyL_le r 0; simp only [sizeT]; omega
theorem sizeL_nn (l : List T) : 0 ≤ sizeL l := by have := manyL_le l 0; omega
mutual
theorem form_fit : ∀ (t : T) (d : Int), formT t d → sizeT t ≤ 60 → t.fit 60
  | .mk k n s ks l, d, h, hs => by
    simp only [formT] at h
    obtain ⟨h1, h2, h3, h4, h5, h6, h7, h8, h9, h10, h11, h12⟩ := h
    simp only [sizeT] at hs
    have hl := sizeL_len l
    have h13 := h10.2
    refine ⟨by unfold i64; omega, by unfold i64; omega, by unfold lenB; omega, ⟨?_, ?_⟩, by unfold lenB; omega, formL_fit l (d - 1) h12 (by omega)⟩
    · rcases h4 with rfl | rfl
      · have := (h11 rfl).1
        unfold lenB; omega
      · simp [lenB]
    · intro x hx
      rcases h4 with rfl | rfl
      · obtain ⟨i, hi⟩ := List.getElem?_of_mem hx
        have := (okKeys_at (h11 rfl).2 hi).2
        unfold lenB; omega
      · simp at hx
theorem formL_fit : ∀ (l : List T) (d : Int), formL l d → sizeL l ≤ 59 → fitL 60 l
  | [], _, _, _ => trivial
  | t :: l, d, h, hs => by
    simp only [formL] at h
    simp only [sizeL] at hs
    have h1 := sizeT_pos t
    have h2 := sizeL_nn l
    exact ⟨form_fit t d h.1 (by omega), formL_fit l d h.2 (by omega)⟩
end
end Go.Proofs.Pw
/- Texts of trees, as both programs write them. -/
namespace Go.Proofs.Pw
open Go
def bL (l : List UInt8) : ByteArray := ⟨l.toArray⟩
theorem bL_app (a b : List UInt8) : bL (a ++ b) = bL a ++ bL b := by
  unfold bL
  apply ByteArray.ext
  simp [ByteArray.data_append]
theorem bL_data (s : ByteArray) : bL s.data.toList = s := by cases s; simp [bL]
theorem bL_size (l : List UInt8) : (bL l).size = l.length := by simp [bL, ByteArray.size]
theorem ba_assoc (a b c : ByteArray) : a ++ b ++ c = a ++ (b ++ c) := ByteArray.append_assoc
theorem ba_nil (a : ByteArray) : ⟨#[]⟩ ++ a = a := by
  apply ByteArray.ext
  simp [ByteArray.data_append]
theorem ba_nil' (a : ByteArray) : a ++ ⟨#[]⟩ = a := by
  apply ByteArray.ext
  simp [ByteArray.data_append]
def itoaB (n : Int) : ByteArray := bL (Lib.itoa n)
def joinB (xs : List ByteArray) (sep : ByteArray) : ByteArray := bL (Lib.join (xs.map (·.data.toList)) sep.data.toList)
theorem itoaB_size {n : Int} (h0 : -9223372036854775808 ≤ n) (h1 : n ≤ 9223372036854775807) : (itoaB n).size ≤ 21 := by
  unfold itoaB
  rw [bL_size]; exact Lib.itoa_length_le n h0 h1
theorem joinTail_app (sep : List UInt8) (a b : List (List UInt8)) : Lib.joinTail sep (a ++ b) = Lib.joinTail sep a ++ Lib.joinTail sep b := by simp [Lib.joinTail]
theorem joinB_nil (sep : ByteArray) : joinB [] sep = ⟨#[]⟩ := rfl
theorem joinB_one (x sep : ByteArray) : joinB [x] sep = x := by
  unfold joinB
  simp only [List.map_cons, List.map_nil, Lib.join_one, bL_data]
theorem joinB_snoc {xs : List ByteArray} (h : xs ≠ []) (y sep : ByteArray) : joinB (xs ++ [y]) sep = joinB xs sep ++ sep ++ y := by
  cases xs with
  | nil => exact absurd rfl h
  | cons x r =>
    unfold joinB
    simp only [List.map_append, List.map_cons, List.map_nil, List.cons_append, Lib.join_cons, joinTail_app]
    rw [bL_app, bL_app, bL_app, ba_assoc, ba_assoc]
    congr 2
    simp only [Lib.joinTail, List.map_cons, List.map_nil, List.flatten_cons, List.flatten_nil, List.append_nil]
    rw [bL_app, bL_data, bL_data]
def lensB : List ByteArray → Nat
  | [] => 0
  | x :: r => x.size + lensB r
theorem lensB_app (a b : List ByteArray) : lensB (a ++ b) = lensB a + lensB b := by
  induction a with
  | nil => simp [lensB]
  | cons x a ih => simp only [List.cons_append, lensB, ih]; omega
theorem ba_len (x : ByteArray) : x.data.toList.length = x.size := Array.length_toList
theorem lensB_eq (xs : List ByteArray) : Lib.lens (xs.map (·.data.toList)) = lensB xs := by
  induction xs with
  | nil => rfl
  | cons x r ih =>
    simp only [Lib.lens, List.map_cons, List.sum_cons, lensB] at ih ⊢
    rw [ih, ba_len]
theorem joinB_size (sep : ByteArray) (xs : List ByteArray) : (joinB xs sep).size ≤ lensB xs + xs.length * sep.size := by
  cases xs with
  | nil => rw [joinB_nil]; exact Nat.zero_le _
  | cons x r =>
    unfold joinB
    rw [bL_size, List.map_cons, Lib.join_cons, List.length_append, Lib.joinTail_length, lensB_eq]
    simp only [List.length_map, lensB, List.length_cons, Nat.add_mul, Nat.one_mul]
    have e1 : x.data.toList.length = x.size := ba_len x
    have e2 : sep.data.toList.length = sep.size := ba_len sep
    rw [e1, e2, Nat.mul_comm sep.size]; omega
mutual
def textT : T → ByteArray
  | .mk k n s ks l => if k = 0 then ⟨#[110, 117, 108, 108]⟩ else if k = 1 then ⟨#[102, 97, 108, 115, 101]⟩ else if k = 2 then ⟨#[116, 114, 117, 101]⟩ else if k = 3 then itoaB n
    else if k = 4 then ⟨#[39]⟩ ++ s ++ ⟨#[39]⟩ else if k = 6 then ⟨#[123]⟩ ++ joinB (textLs k ks l) ⟨#[44]⟩ ++ ⟨#[125]⟩ else ⟨#[91]⟩ ++ joinB (textLs k ks l) ⟨#[44]⟩ ++ ⟨#[93]⟩
def textLs (k : Int) : List ByteArray → List T → List ByteArray
  | _, [] => []
  | ks, t :: l => (if k = 6 then ks.headD ⟨#[]⟩ ++ ⟨#[58]⟩ ++ textT t else textT t) :: textLs k ks.tail l
end
theorem textLs_len (k : Int) : ∀ (ks : List ByteArray) (l : List T), (textLs k ks l).length = l.length
  | _, [] => by simp [textLs]
  | ks, t :: l => by simp [textLs, textLs_len k ks.tail l]
theorem textLs_take (k : Int) : ∀ (l : List T) (ks : List ByteArray) (i : Nat) (t : T), l[i]? = some t → (textLs k ks l).take (i + 1) = (textLs k ks l).take i ++ [if k = 6 then ks.getD i ⟨#[]⟩ ++ ⟨#[58]⟩ ++ textT t else textT t]
  | [], _, _, _, h => by simp at h
  | x :: l, ks, 0, t, h => by
    simp at h; subst h
    cases ks <;> simp [textLs]
  | x :: l, ks, i + 1, t, h => by
    have := textLs_take k l ks.tail i t (by simpa using h)
    simp only [textLs, List.take_succ_cons, List.cons_append]
    rw [this]
    cases ks <;> simp
mutual
theorem textT_size : ∀ {t : T} {d : Int}, formT t d → ((textT t).size : Int) + 14 ≤ 40 * sizeT t
  | .mk k n s ks l, d, h => by
    simp only [formT] at h
    obtain ⟨h1, h2, h3, h4, h5, h6, h7, h8, h9, h10, h11, h12⟩ := h
    have hs := h10.2
    have hn := itoaB_size (n := n) (by omega) (by omega)
    have hl := textLs_size (k := k) (ks := ks) (fun s hs => by
      rcases h4 with h4 | h4
      · obtain ⟨i, hi⟩ := List.getElem?_of_mem hs
        exact (okKeys_at (h11 h4).2 hi).2
      · subst h4; simp at hs) h12
    have hp := sizeL_nn l
    have hj := joinB_size ⟨#[44]⟩ (textLs k ks l)
    rw [textLs_len] at hj
    have hc : (ByteArray.mk #[44]).size = 1 := rfl
    rw [hc] at hj
    have e1 : (ByteArray.mk #[39]).size = 1 := rfl
    have e2 : (ByteArray.mk #[123]).size = 1 := rfl
    have e3 : (ByteArray.mk #[125]).size = 1 := rfl
    have e4 : (ByteArray.mk #[91]).size = 1 := rfl
    have e5 : (ByteArray.mk #[93]).size = 1 := rfl
    have e6 : (ByteArray.mk #[110, 117, 108, 108]).size = 4 := rfl
    have e7 : (ByteArray.mk #[102, 97, 108, 115, 101]).size = 5 := rfl
    have e8 : (ByteArray.mk #[116, 114, 117, 101]).size = 4 := rfl
    simp only [textT, sizeT]
    repeat' split
    all_goals try simp only [ByteArray.size_append, e1, e2, e3, e4, e5, e6, e7, e8]
    all_goals omega
theorem textLs_size {k : Int} : ∀ {ks : List ByteArray} {l : List T} {d : Int}, (∀ s ∈ ks, s.size ≤ 12) → formL l d → (lensB (textLs k ks l) : Int) + l.length ≤ 40 * sizeL l
  | _, [], _, _, _ => by simp [textLs, lensB, sizeL]
  | ks, t :: l, d, hk, h => by
    simp only [formL] at h
    have h1 := textT_size h.1
    have h2 := textLs_size (k := k) (ks := ks.tail) (fun s hs => hk s (List.mem_of_mem_tail hs)) h.2
    have h3 : (ks.headD ⟨#[]⟩).size ≤ 12 := by
      cases ks with
      | nil => decide
      | cons a r => exact hk a (by simp)
    have e1 : (ByteArray.mk #[58]).size = 1 := rfl
    simp only [textLs, lensB, sizeL, List.length_cons]
    split
    · rw [ByteArray.size_append, ByteArray.size_append, e1]; omega
    · omega
end
theorem sizeL_mem' {l : List T} {t : T} (h : t ∈ l) : sizeT t ≤ sizeL l := by
  induction l with
  | nil => simp at h
  | cons x l ih =>
    have := sizeL_nn l; have := sizeT_pos x
    simp only [sizeL]
    rcases List.mem_cons.1 h with rfl | h
    · omega
    · have := ih h; omega
theorem len_sizeL : ∀ l : List T, (l.length : Int) ≤ sizeL l
  | [] => by simp [sizeL]
  | t :: l => by have := sizeT_pos t; have := len_sizeL l; simp only [List.length_cons, sizeL]; omega
theorem lensB_take (l : List ByteArray) (i : Nat) : lensB (l.take i) ≤ lensB l := by
  have h := lensB_app (l.take i) (l.drop i)
  rw [List.take_append_drop] at h
  omega
theorem sep_size : (ByteArray.mk #[44]).size = 1 := rfl
theorem join_take {k : Int} {ks : List ByteArray} {l : List T} {d : Int} (hk : ∀ s ∈ ks, s.size ≤ 12) (h : formL l d) (hs : sizeL l ≤ 60) (i : Nat) : (joinB ((textLs k ks l).take i) ⟨#[44]⟩).size ≤ 2400 := by
  have h1 := textLs_size (k := k) (ks := ks) hk h
  have h2 := joinB_size ⟨#[44]⟩ ((textLs k ks l).take i)
  have h3 := lensB_take (textLs k ks l) i
  have h4 : ((textLs k ks l).take i).length ≤ l.length := by rw [List.length_take, textLs_len]; omega
  rw [sep_size] at h2
  omega
theorem join_step {xs : List ByteArray} {i : Nat} {y : ByteArray} (h : xs.take (i + 1) = xs.take i ++ [y]) (hl : i < xs.length) : joinB (xs.take (i + 1)) ⟨#[44]⟩ = if i = 0 then y else joinB (xs.take i) ⟨#[44]⟩ ++ ⟨#[44]⟩ ++ y := by
  rw [h]
  split
  · rename_i h0; subst h0
    simp only [List.take_zero, List.nil_append, joinB_one]
  · rename_i h0
    exact joinB_snoc (fun e => by have := congrArg List.length e; rw [List.length_take, List.length_nil] at this; omega) _ _
theorem keys_small {k n : Int} {s : ByteArray} {ks : List ByteArray} {l : List T} {d : Int} (h : formT (.mk k n s ks l) d) : ∀ s ∈ ks, s.size ≤ 12 := fun s hs => by
  simp only [formT] at h
  obtain ⟨h1, h2, h3, h4, h5, h6, h7, h8, h9, h10, h11, h12⟩ := h
  rcases h4 with h4 | h4
  · obtain ⟨i, hi⟩ := List.getElem?_of_mem hs
    exact (okKeys_at (h11 h4).2 hi).2
  · subst h4; simp at hs
/-! Numbers. -/
def decB (u : Nat) : ByteArray := bL (Lib.decDigits u)
theorem itoaB_neg {n : Int} (h : n < 0) : itoaB n = ⟨#[45]⟩ ++ itoaB (0 - n) := by
  unfold itoaB Lib.itoa
  rw [if_pos h, if_neg (by omega)]
  have e : (0 - n).toNat = n.natAbs := by omega
  rw [e, show (45 :: Lib.decDigits n.natAbs) = [45] ++ Lib.decDigits n.natAbs from rfl, bL_app]
  rfl
theorem itoaB_pos {n : Int} (h : 0 ≤ n) : itoaB n = decB n.toNat := by
  unfold itoaB Lib.itoa decB
  rw [if_neg (by omega)]
theorem decB_small {u : Nat} (h : u < 10) : decB u = bytesS [((48 + u : Nat) : Int)] := by
  unfold decB
  rw [Lib.decDigits, dif_pos h]
  rfl
theorem decB_step {u : Nat} (h : ¬ u < 10) (out : ByteArray) : decB u ++ out = decB (u / 10) ++ (bytesS [((48 + u % 10 : Nat) : Int)] ++ out) := by
  unfold decB
  rw [Lib.decDigits, dif_neg h, bL_app, ba_assoc]
  rfl
/-! Texts of filters. -/
def wtab : List ByteArray := [⟨#[]⟩, ⟨#[46]⟩, ⟨#[]⟩, ⟨#[]⟩, ⟨#[]⟩, ⟨#[91, 93]⟩, ⟨#[112, 105, 112, 101]⟩, ⟨#[98, 111, 116, 104]⟩, ⟨#[105, 102]⟩, ⟨#[97, 100, 100]⟩, ⟨#[108, 101, 115, 115]⟩, ⟨#[115, 97, 109, 101]⟩, ⟨#[114, 111, 119]⟩, ⟨#[108, 101, 110]⟩, ⟨#[107, 101, 121, 115]⟩, ⟨#[110, 111, 116]⟩, ⟨#[101, 108, 115, 101]⟩, ⟨#[116, 114, 121]⟩, ⟨#[110, 111, 110, 101]⟩, ⟨#[98, 97, 100]⟩, ⟨#[116, 117, 114, 110]⟩, ⟨#[]⟩]
theorem wtab_size : ∀ i : Fin 22, (wtab.getD i.val ⟨#[]⟩).size ≤ 4 := by decide
def headB (k n : Int) (s : ByteArray) (v : T) : ByteArray :=
  if k = 2 then ⟨#[61]⟩ ++ textT v else if k = 3 then ⟨#[46]⟩ ++ s ++ ⟨#[58]⟩ else if k = 4 then ⟨#[91]⟩ ++ itoaB n ++ ⟨#[93]⟩ else if k = 21 then ⟨#[109, 97, 107, 101, 58]⟩ ++ s else wtab.getD k.toNat ⟨#[]⟩
mutual
def textF : F → ByteArray
  | .mk k n s v l => headB k n s v ++ textFs l
def textFs : List F → ByteArray
  | [] => ⟨#[]⟩
  | t :: l => ⟨#[32]⟩ ++ textF t ++ textFs l
end
theorem headB_size {k n : Int} {s : ByteArray} {v : T} (hk : 0 ≤ k ∧ k ≤ 21) (hn : -60 ≤ n ∧ n < 60) (hs : s.size ≤ 12) (hv : okT v) : (headB k n s v).size ≤ 2402 := by
  have h1 := textT_size hv.1
  have h2 := okT_size hv
  have h3 := itoaB_size (n := n) (by omega) (by omega)
  have h4 := wtab_size ⟨k.toNat, by omega⟩
  simp only at h4
  have e1 : (ByteArray.mk #[61]).size = 1 := rfl
  have e2 : (ByteArray.mk #[46]).size = 1 := rfl
  have e3 : (ByteArray.mk #[58]).size = 1 := rfl
  have e4 : (ByteArray.mk #[91]).size = 1 := rfl
  have e5 : (ByteArray.mk #[93]).size = 1 := rfl
  have e6 : (ByteArray.mk #[109, 97, 107, 101, 58]).size = 5 := rfl
  unfold headB
  repeat' split
  all_goals try simp only [ByteArray.size_append, e1, e2, e3, e4, e5, e6]
  all_goals omega
mutual
theorem textF_size : ∀ {t : F} {d : Int}, formF t d → ((textF t).size : Int) + 1 ≤ 2500 * sizeF t
  | .mk k n s v l, d, h => by
    simp only [formF] at h
    obtain ⟨h1, h2, h3, h4, h5, h6, h7, h8, h9⟩ := h
    have h10 := kidsOf_range (show 0 ≤ kidsOf k by omega)
    have a := headB_size (s := s) (v := v) (show 0 ≤ k ∧ k ≤ 21 by omega) ⟨h5, h6⟩ h4.2 h7
    have b := textFs_size h8
    have c := manyFL_le l 0
    simp only [textF, sizeF, ByteArray.size_append]; omega
theorem textFs_size : ∀ {l : List F} {d : Int}, formFL l d → ((textFs l).size : Int) ≤ 2500 * sizeFL l
  | [], _, _ => by simp [textFs, sizeFL, ByteArray.size]
  | t :: l, d, h => by
    simp only [formFL] at h
    have h1 := textF_size h.1
    have h2 := textFs_size h.2
    have e1 : (ByteArray.mk #[32]).size = 1 := rfl
    simp only [textFs, sizeFL, ByteArray.size_append, e1]; omega
end
end Go.Proofs.Pw
/- Contracts of the library at this dump. -/
namespace Go.Proofs
open Go.Shelf
open Go.RowKit
def Tryd.lays156_ren : Go.Shelf.Ren := ⟨fun | 156 => 60 | 165 => 74 | 166 => 75 | 169 => 76 | 240 => 81 | 241 => 82 | 276 => 89 | 277 => 90 | n => n, fun | 31 => 29 | 9 => 9 | 3 => 3 | 4 => 4 | 0 => 0 | 20 => 20 | 72 => 103 | 76 => 107 | 70 => 101 | 37 => 98 | 75 => 106 | 127 => 111 | 164 => 119 | 5 => 5 | 80 => 64 | n => n, fun | n => n⟩
theorem Tryd.lays156 : Go.Proofs.Lays.n156 Tryd.prog Tryd.lays156_ren := {
  mixed := by kernel_rfl
  f156 := Tryd.func60.trans (congrArg some (by kernel_rfl))
  f165 := Tryd.func74.trans (congrArg some (by kernel_rfl))
  f166 := Tryd.func75.trans (congrArg some (by kernel_rfl))
  f169 := Tryd.func76.trans (congrArg some (by kernel_rfl))
  f240 := Tryd.func81.trans (congrArg some (by kernel_rfl))
  f241 := Tryd.func82.trans (congrArg some (by kernel_rfl))
  f276 := Tryd.func89.trans (congrArg some (by kernel_rfl))
  f277 := Tryd.func90.trans (congrArg some (by kernel_rfl))
  t0 := Tryd.underlying0
  a0 := Tryd.isAgg0
  z0 := Tryd.sizeOf0
  v0 := Tryd.zeroValue0
  t3 := Tryd.underlying3
  a3 := Tryd.isAgg3
  z3 := Tryd.sizeOf3
  v3 := Tryd.zeroValue3
  t4 := Tryd.underlying4
  a4 := Tryd.isAgg4
  z4 := Tryd.sizeOf4
  v4 := Tryd.zeroValue4
  t9 := Tryd.underlying9
  a9 := Tryd.isAgg9
  z9 := Tryd.sizeOf9
  v9 := Tryd.zeroValue9
  t20 := Tryd.underlying20
  a20 := Tryd.isAgg20
  z20 := Tryd.sizeOf20
  v20 := Tryd.zeroValue20
  t31 := Tryd.underlying29
  a31 := Tryd.isAgg29
  z31 := Tryd.sizeOf29
  v31 := Tryd.zeroValue29
  t37 := Tryd.underlying98
  a37 := Tryd.isAgg98
  z37 := Tryd.sizeOf98
  v37 := Tryd.zeroValue98
  t70 := Tryd.underlying101
  a70 := Tryd.isAgg101
  z70 := Tryd.sizeOf101
  v70 := Tryd.zeroValue101
  t72 := Tryd.underlying103
  a72 := Tryd.isAgg103
  z72 := Tryd.sizeOf103
  v72 := Tryd.zeroValue103
  t75 := Tryd.underlying106
  a75 := Tryd.isAgg106
  z75 := Tryd.sizeOf106
  v75 := Tryd.zeroValue106
  t76 := Tryd.underlying107
  a76 := Tryd.isAgg107
  z76 := Tryd.sizeOf107
  v76 := Tryd.zeroValue107
  t127 := Tryd.underlying111
  a127 := Tryd.isAgg111
  z127 := Tryd.sizeOf111
  v127 := Tryd.zeroValue111
  t164 := Tryd.underlying119
  a164 := Tryd.isAgg119
  z164 := Tryd.sizeOf119
  v164 := Tryd.zeroValue119 }
theorem Tryd.Builder_Extra_156 : Builder.Extra Tryd.prog Tryd.lays156_ren := {
  sizeBuilder := by kernel_rfl
  liesBuilder := by kernel_rfl
  t5 := Tryd.underlying5
  a5 := Tryd.isAgg5
  z5 := Tryd.sizeOf5
  v5 := Tryd.zeroValue5
  infoByte := by kernel_rfl
  cellsByte := by kernel_rfl
  sizeByte := by kernel_rfl
  neB5 := by decide }
theorem Tryd.strings_Join_none (a : Option Addr) (c : Nat) (sep : ByteArray) (w : World) :
    Calls Tryd.prog 60 #[.slice a 0 c, .string sep] w fun e w' => e = .returned (.string ⟨#[]⟩) ∧ w' = w := Any.strings_Join_none Tryd.lays156 Tryd.Builder_Extra_156 a c sep w
theorem Tryd.strings_Join (bk o c : Nat) (xs : List ByteArray) (sep : ByteArray) (w : World) (hcells : ∀ (j : Nat) x, xs[j]? = some x → w.cell? ⟨bk, o + j, none⟩ = some (.string x)) (hbk : bk < w.heap.size) (hN : xs.length ≤ 140737488355328) (hcap : xs.length ≤ c) (hlen : (Lib.join (xs.map (·.data.toList)) sep.data.toList).length ≤ 140737488355328) :
    Calls Tryd.prog 60 #[.slice (some ⟨bk, o, none⟩) xs.length c, .string sep] w fun e w' => e = .returned (.string ⟨(Lib.join (xs.map (·.data.toList)) sep.data.toList).toArray⟩) ∧ Below w.heap.size w w' := Any.strings_Join Tryd.lays156 Tryd.Builder_Extra_156 bk o c xs sep w hcells hbk hN hcap hlen
def Tryd.laysM171_ren : Go.Shelf.Ren := ⟨fun | 171 => 41 | 243 => 63 | 246 => 77 | 283 => 83 | 284 => 84 | 285 => 85 | 286 => 86 | 129 => 92 | 317 => 91 | 318 => 93 | 319 => 94 | 320 => 95 | 337 => 96 | 338 => 97 | n => n, fun | 3 => 3 | 9 => 9 | 2 => 2 | 4 => 4 | 171 => 112 | 0 => 0 | 53 => 113 | 37 => 98 | 5 => 5 | 173 => 116 | 212 => 123 | 51 => 124 | 20 => 20 | 213 => 125 | 46 => 127 | 232 => 130 | 233 => 131 | n => n, fun | 17 => 2 | 18 => 4 | 19 => 5 | n => n⟩
theorem Tryd.laysM171 : Go.Proofs.LaysM.n171 Tryd.prog Tryd.laysM171_ren := {
  mixed := by kernel_rfl
  f129 := Tryd.func92.trans (congrArg some (by kernel_rfl))
  f171 := Tryd.func41.trans (congrArg some (by kernel_rfl))
  f243 := Tryd.func63.trans (congrArg some (by kernel_rfl))
  f246 := Tryd.func77.trans (congrArg some (by kernel_rfl))
  f283 := Tryd.func83.trans (congrArg some (by kernel_rfl))
  f284 := Tryd.func84.trans (congrArg some (by kernel_rfl))
  f285 := Tryd.func85.trans (congrArg some (by kernel_rfl))
  f286 := Tryd.func86.trans (congrArg some (by kernel_rfl))
  f317 := Tryd.func91.trans (congrArg some (by kernel_rfl))
  f318 := Tryd.func93.trans (congrArg some (by kernel_rfl))
  f319 := Tryd.func94.trans (congrArg some (by kernel_rfl))
  f320 := Tryd.func95.trans (congrArg some (by kernel_rfl))
  f337 := Tryd.func96.trans (congrArg some (by kernel_rfl))
  f338 := Tryd.func97.trans (congrArg some (by kernel_rfl))
  t0 := Tryd.underlying0
  a0 := Tryd.isAgg0
  z0 := Tryd.sizeOf0
  v0 := Tryd.zeroValue0
  t2 := Tryd.underlying2
  a2 := Tryd.isAgg2
  z2 := Tryd.sizeOf2
  v2 := Tryd.zeroValue2
  t3 := Tryd.underlying3
  a3 := Tryd.isAgg3
  z3 := Tryd.sizeOf3
  v3 := Tryd.zeroValue3
  t4 := Tryd.underlying4
  a4 := Tryd.isAgg4
  z4 := Tryd.sizeOf4
  v4 := Tryd.zeroValue4
  t5 := Tryd.underlying5
  a5 := Tryd.isAgg5
  z5 := Tryd.sizeOf5
  v5 := Tryd.zeroValue5
  t9 := Tryd.underlying9
  a9 := Tryd.isAgg9
  z9 := Tryd.sizeOf9
  v9 := Tryd.zeroValue9
  t20 := Tryd.underlying20
  a20 := Tryd.isAgg20
  z20 := Tryd.sizeOf20
  v20 := Tryd.zeroValue20
  t37 := Tryd.underlying98
  a37 := Tryd.isAgg98
  z37 := Tryd.sizeOf98
  v37 := Tryd.zeroValue98
  t46 := Tryd.underlying127
  a46 := Tryd.isAgg127
  z46 := Tryd.sizeOf127
  v46 := Tryd.zeroValue127
  t51 := Tryd.underlying124
  a51 := Tryd.isAgg124
  z51 := Tryd.sizeOf124
  v51 := Tryd.zeroValue124
  t53 := Tryd.underlying113
  a53 := Tryd.isAgg113
  z53 := Tryd.sizeOf113
  v53 := Tryd.zeroValue113
  t171 := Tryd.underlying112
  a171 := Tryd.isAgg112
  z171 := Tryd.sizeOf112
  v171 := Tryd.zeroValue112
  t173 := Tryd.underlying116
  a173 := Tryd.isAgg116
  z173 := Tryd.sizeOf116
  v173 := Tryd.zeroValue116
  t212 := Tryd.underlying123
  a212 := Tryd.isAgg123
  z212 := Tryd.sizeOf123
  v212 := Tryd.zeroValue123
  t213 := Tryd.underlying125
  a213 := Tryd.isAgg125
  z213 := Tryd.sizeOf125
  t232 := Tryd.underlying130
  a232 := Tryd.isAgg130
  z232 := Tryd.sizeOf130
  v232 := Tryd.zeroValue130
  t233 := Tryd.underlying131
  a233 := Tryd.isAgg131
  z233 := Tryd.sizeOf131
  v233 := Tryd.zeroValue131
  g17 := by kernel_rfl
  g18 := by kernel_rfl
  g19 := by kernel_rfl
  i0 := by kernel_rfl
  i2 := by kernel_rfl
  i3 := by kernel_rfl
  i4 := by kernel_rfl
  i5 := by kernel_rfl
  i9 := by kernel_rfl
  i20 := by kernel_rfl
  i37 := by kernel_rfl
  i46 := by kernel_rfl
  i51 := by kernel_rfl
  i53 := by kernel_rfl
  i171 := by kernel_rfl
  i173 := by kernel_rfl
  i212 := by kernel_rfl
  i232 := by kernel_rfl
  i233 := by kernel_rfl
  m17 := by kernel_rfl
  m18 := by kernel_rfl
  m19 := by kernel_rfl }
open Go.RowKit Go.Sort Go.Lib in
theorem Tryd.strconv_Itoa (n : Int) (h0 : -9223372036854775808 ≤ n) (h1 : n ≤ 9223372036854775807) (w : World) (htab : Lib.TabIs Tryd.prog w "internal/strconv.uint64pow10" .u64 Lib.pow10Tab) :
    Calls Tryd.prog 41 #[.int .i64 n] w fun e w' => e = .returned (.string ⟨(Lib.itoa n).toArray⟩) ∧ ∃ k os, w' = grow (w.drewN k) os := Any.strconv_Itoa Tryd.laysM171 n h0 h1 w htab
end Go.Proofs
/- Numbers as texts, texts joined: the library's functions, by what is proved of them. -/
set_option linter.unusedSimpArgs false
set_option maxRecDepth 20000
namespace Go.Proofs.Pw
open Go.RowKit Go.Sort
set_option linter.unusedSectionVars false
variable [Globs]
theorem call_Itoa : okCallee Go.Proofs.Tryd.prog 41 = true := by kernel_rfl
theorem call_Join : okCallee Go.Proofs.Tryd.prog 60 = true := by kernel_rfl
/-- The library's table is told. -/
def tabK [Globs] : Prop := ∃ g, Go.Proofs.Tryd.prog.globalNamed "internal/strconv.uint64pow10" = some g ∧ (g, Lib.pow10Tab.map (fun z => Value.int .u64 z)) ∈ Globs.K
theorem Fr.grown (X : Nat → Prop) (w : World) (k : Nat) (os : Array Obj) : Fr X w.heap.size w (grow (w.drewN k) os) :=
  ⟨rfl, rfl, rfl, by simp [grow, World.drewN], fun i hi _ => by
    show (w.heap ++ os)[i]? = w.heap[i]?
    rw [Array.getElem?_append_left hi]⟩
noncomputable def spItoa  : Spec := Spec.of (ι := Int) [false] (fun i => [.d (.one (.int .i64 i))]) (fun i => i64 i) (fun i => [.d (.one (.str (itoaB i)))]) (fun _ => [.gone])
theorem spItoa_inj : ∀ i j : Int, (fun (i : Int) => ([.d (.one (.int .i64 i))] : List AV)) i = (fun (i : Int) => ([.d (.one (.int .i64 i))] : List AV)) j → i = j := by
  intro n n' h
  simpa [strs_eq, T.enc_eq, encL_eq, F.enc_eq, encF_eq, Tk.enc_eq, encTk_eq, Gn.enc_eq, ints_eq] using h
theorem spItoa_md  : (spItoa).md = [false] := rfl
theorem spItoa_pre  (n : Int) : (spItoa).pre [.d (.one (.int .i64 n))] = (i64 n) := Spec.of_pre' spItoa_inj n
theorem spItoa_alts  : (spItoa).alts = none := rfl
theorem spItoa_res  (n : Int) : (spItoa).res [.d (.one (.int .i64 n))] = [.d (.one (.str (itoaB n)))] := Spec.of_res spItoa_inj n
theorem spItoa_out  (n : Int) : (spItoa).out [.d (.one (.int .i64 n))] = [.gone] := Spec.of_out spItoa_inj n
theorem itoa_sound (hK : tabK) : Sound Go.Proofs.Tryd.prog 41 spItoa := by
  rintro args ⟨n, rfl, hn⟩ w S vs fps hG hS hF ha hA
  cases hA with
  | cons h1 h2 =>
    cases h2
    obtain ⟨hr, hfp⟩ := h1
    cases hr
    obtain ⟨g, hg, hk⟩ := hK
    obtain ⟨_, t, x, hx⟩ := hG.2 g _ hk
    have htab : Lib.TabIs Go.Proofs.Tryd.prog w "internal/strconv.uint64pow10" .u64 Lib.pow10Tab := by
      unfold Lib.TabIs World.var?
      rw [hg]
      simp only [Option.bind_some, hx]
    refine (Go.Proofs.Tryd.strconv_Itoa n hn.1 hn.2 w htab).mono ?_
    rintro e w' ⟨rfl, k, os, rfl⟩
    refine ⟨[.d (.one (.str (itoaB n)))], [.gone], (Spec.may_none spItoa_alts).2 ⟨(spItoa_res n).symm, (spItoa_out n).symm⟩, _, S, [fun _ => False], [fun _ => False], rfl, ⟨.str _, fun _ h => h⟩, .cons (fun _ h => h) .nil, fun g hg => .inl hg, fun g hg => ?_, ?_, ?_, Fr.grown _ w k os⟩
    · exact Nat.lt_of_lt_of_le (hS g hg) (Fr.grown (fun _ => False) w k os).size
    · exact ⟨fun g h => h.elim, fun g h => h.elim, fun g h => h.elim, fun g h => h.elim, trivial⟩
    · rintro g ⟨p, hp, hpg⟩
      simp only [List.cons_append, List.nil_append, List.mem_cons, List.not_mem_nil, or_false] at hp
      rcases hp with rfl | rfl <;> exact hpg.elim
theorem Fr.below {B : Nat} (X : Nat → Prop) {w w' : World} (h : Below B w w') : Fr X B w w' := ⟨h.os, h.tape, h.output, h.size, fun k hk _ => h.block k hk⟩
theorem strs_nil_iff {xs : List ByteArray} (h : strs xs = []) : xs = [] := by cases xs <;> simp_all [strs]
theorem join_end {xs : List ByteArray} {sep : ByteArray} {w w' : World} {S : Nat → Prop} {r : RV} {fp fp2 : Nat → Prop} {v2 : Value} (hp : Priv w S 1 (strs xs) r) (hf : ∀ g, fp g ↔ pblk r g) (hb : Below w.heap.size w w') (hS : ∀ g, S g → g < w.heap.size) (ha : Apart S [fp, fp2]) (hf2 : ∀ g, ¬ fp2 g) :
    ∃ S' rfs fps', RepR w' S' [.d (.one (.str (joinB xs sep)))] (.string (joinB xs sep)) rfs ∧ All3 (RepA w' S') [.own 1 (strs xs), .gone] [r.v, v2] fps' ∧
      (∀ g, S' g → S g ∨ w.heap.size ≤ g ∨ Any [fp, fp2] g) ∧ (∀ g, S' g → g < w'.heap.size) ∧
      Apart S' (rfs ++ fps') ∧ (∀ g, Any (rfs ++ fps') g → (w.heap.size ≤ g ∨ Any [fp, fp2] g) ∧ g < w'.heap.size) ∧ Fr (Any [fp, fp2]) w.heap.size w w' := by
  have hlt : ∀ g, pblk r g → g < w.heap.size := fun g hg => hp.lt hg
  have hp' : Priv w' S 1 (strs xs) r := hp.move (fun _ h => h) (fun g hg => hb.block g (hS g hg)) (fun g hg => hb.block g (hlt g hg))
  refine ⟨S, [fun _ => False], [fp, fp2], ⟨.str _, fun _ h => h⟩, .cons ⟨by decide, r, rfl, hp', hf⟩ (.cons hf2 .nil), fun g hg => .inl hg, fun g hg => Nat.lt_of_lt_of_le (hS g hg) hb.size, ⟨fun g h => h.elim, fun g h => h.elim, ha⟩, ?_, Fr.below _ hb⟩
  rintro g ⟨p, hp1, hpg⟩
  simp only [List.cons_append, List.nil_append, List.mem_cons, List.not_mem_nil, or_false] at hp1
  rcases hp1 with rfl | rfl | rfl
  · exact hpg.elim
  · exact ⟨.inr ⟨_, by simp, hpg⟩, Nat.lt_of_lt_of_le (hlt g ((hf g).1 hpg)) hb.size⟩
  · exact absurd hpg (hf2 g)
noncomputable def spJoin  : Spec := Spec.of (ι := (List ByteArray) × ByteArray) [true, false] (fun i => [.own 1 (strs i.1), .d (.one (.str i.2))]) (fun i => lenB 140737488355328 i.1.length ∧ lenB 140737488355328 (joinB i.1 i.2).size) (fun i => [.d (.one (.str (joinB i.1 i.2)))]) (fun i => [.own 1 (strs i.1), .gone])
theorem spJoin_inj : ∀ i j : (List ByteArray) × ByteArray, (fun (i : (List ByteArray) × ByteArray) => ([.own 1 (strs i.1), .d (.one (.str i.2))] : List AV)) i = (fun (i : (List ByteArray) × ByteArray) => ([.own 1 (strs i.1), .d (.one (.str i.2))] : List AV)) j → i = j := by
  rintro ⟨xs, sep⟩ ⟨xs', sep'⟩ h
  simp only [Prod.mk.injEq]
  simpa [strs_eq, T.enc_eq, encL_eq, F.enc_eq, encF_eq, Tk.enc_eq, encTk_eq, Gn.enc_eq, ints_eq] using h
theorem spJoin_md  : (spJoin).md = [true, false] := rfl
theorem spJoin_pre  (xs : List ByteArray) (sep : ByteArray) : (spJoin).pre [.own 1 (strs xs), .d (.one (.str sep))] = (lenB 140737488355328 xs.length ∧ lenB 140737488355328 (joinB xs sep).size) := Spec.of_pre' spJoin_inj (xs, sep)
theorem spJoin_alts  : (spJoin).alts = none := rfl
theorem spJoin_res  (xs : List ByteArray) (sep : ByteArray) : (spJoin).res [.own 1 (strs xs), .d (.one (.str sep))] = [.d (.one (.str (joinB xs sep)))] := Spec.of_res spJoin_inj (xs, sep)
theorem spJoin_out  (xs : List ByteArray) (sep : ByteArray) : (spJoin).out [.own 1 (strs xs), .d (.one (.str sep))] = [.own 1 (strs xs), .gone] := Spec.of_out spJoin_inj (xs, sep)
theorem join_sound : Sound Go.Proofs.Tryd.prog 60 spJoin := by
  rintro args ⟨⟨xs, sep⟩, rfl, hn, hj⟩ w S vs fps hG hS hF ha hA
  simp only [lenB] at hn hj
  cases hA with
  | cons h1 h2 =>
    rename_i v fp vs fps
    cases h2 with
    | cons h2 h3 =>
      rename_i v2 fp2 vs fps
      cases h3
      obtain ⟨hr, hfp⟩ := h2
      cases hr
      obtain ⟨_, r, rfl, hp, hf⟩ := h1
      have key : ∀ (e : Ending) w', e = .returned (.string (joinB xs sep)) ∧ Below w.heap.size w w' → ∃ r' o, spJoin.may [.own 1 (strs xs), .d (.one (.str sep))] r' o ∧ ∃ v S' rfs fps', e = .returned v ∧ RepR w' S' r' v rfs ∧ All3 (RepA w' S') o [r.v, .string sep] fps' ∧
          (∀ g, S' g → S g ∨ w.heap.size ≤ g ∨ Any [fp, fp2] g) ∧ (∀ g, S' g → g < w'.heap.size) ∧
          Apart S' (rfs ++ fps') ∧ (∀ g, Any (rfs ++ fps') g → (w.heap.size ≤ g ∨ Any [fp, fp2] g) ∧ g < w'.heap.size) ∧ Fr (Any [fp, fp2]) w.heap.size w w' := fun e w' ⟨he, hb⟩ => by
        obtain ⟨S', rfs, fps', k1, k2, k3⟩ := join_end (sep := sep) (v2 := .string sep) hp hf hb hS ha hfp
        exact ⟨_, _, (Spec.may_none spJoin_alts).2 ⟨(spJoin_res xs sep).symm, (spJoin_out xs sep).symm⟩, _, S', rfs, fps', he, k1, k2, k3⟩
      have k := hp.repX (by decide)
      generalize hes : strs xs = es at k
      generalize hv : r.v = v at k key
      cases k with
      | pl hr => cases hr
      | nil h0 hh =>
        rename_i a
        have hx := strs_nil_iff hes
        subst hx
        refine (Go.Proofs.Tryd.strings_Join_none a 0 sep w).mono ?_
        rintro e w' ⟨rfl, rfl⟩
        exact key _ _ ⟨rfl, Below.refl _ _⟩
      | own ψ h0 hh hg hcl hcm hsz hes1 hD hψ hd u hu hrr =>
        rename_i g cap cur ty
        have hlen : es.length = xs.length := by rw [← hes, strs_len]
        have hgl : g < w.heap.size := by
          rcases Nat.lt_or_ge g w.heap.size with h | h
          · exact h
          · rw [Array.getElem?_eq_none h] at hg; cases hg
        have hcell : ∀ (j : Nat) x, xs[j]? = some x → w.cell? ⟨g, 0 + j, none⟩ = some (.string x) := fun j x hx => by
          have he : es[j]? = some [C.str x] := by rw [← hes]; simp [strs, hx]
          have q1 := hu j 0 _ _ he rfl
          have q2 := hrr j 0 _ _ he rfl
          have q3 : u (j * 1 + 0) = .string x := by
            generalize u (j * 1 + 0) = z at q2
            cases q2 with
            | pl h => cases h; rfl
          rw [q3] at q1
          unfold World.cell?
          simp only [hg]
          simpa using q1
        rw [hlen] at key ⊢
        refine (Go.Proofs.Tryd.strings_Join g 0 cap xs sep w hcell hgl (by omega) (by omega) (by have e : (joinB xs sep).size = _ := bL_size _; omega)).mono ?_
        rintro e w' ⟨rfl, hb⟩
        exact key _ _ ⟨rfl, hb⟩
end Go.Proofs.Pw
