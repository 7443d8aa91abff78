/- Rows, each tree once. -/
import Derived.Test.YtgpjodcopajlkaaDoorPwT11
import Derived.Lib.ItoaLen
import Derived.Lib.Join
set_option linter.unusedSimpArgs false
set_option linter.unusedVariables false
set_option linter.unusedSectionVars false
set_option maxRecDepth 20000
namespace Go.Proofs.Pw
end Go.Proofs.Pw
namespace Go.Proofs.Pw
variable [Globs]
def idxS (x : ByteArray) : Nat -> List ByteArray -> Int
 | _, [] => -1
 | i, y :: r => if x = y then i else idxS x (i + 1) r
open Classical in
noncomputable def getT (key : ByteArray) (v : T) : T := if v.kind = 6 /\ 0 <= idxS key 0 v.keys then v.list.getD (idxS key 0 v.keys).toNat T.zero else T.zero
def getOk (v : T) : Prop := v.kind = 6 \/ v.kind = 0
noncomputable instance (v : T) : Decidable (getOk v) := Classical.propDecidable _
noncomputable def marks (key : ByteArray) (l : List T) : List T := l.map (getT key)
def byOk (v : T) (key : ByteArray) : Prop := rowT v /\ okS key /\ ∀ x ∈ v.list, getOk x
noncomputable instance (v : T) (key : ByteArray) : Decidable (byOk v key) := Classical.propDecidable _
end Go.Proofs.Pw
namespace Go.Proofs.Pw
def Asc (ks : List ByteArray) : Prop := ks.Pairwise sl
theorem Asc.tail {k : ByteArray} {ks : List ByteArray} (h : Asc (k :: ks)) : Asc ks := (List.pairwise_cons.1 h).2
theorem Asc.head {k : ByteArray} {ks : List ByteArray} (h : Asc (k :: ks)) : ∀ s ∈ ks, sl k s := (List.pairwise_cons.1 h).1
end Go.Proofs.Pw
namespace Go.Proofs.Pw
mutual
theorem form_many : ∀ (t : T) (d : Int), formT t d -> manyT t d = sizeT t
 | .mk k n s ks l, d, h => by
   simp only [formT] at h
   simp only [manyT, sizeT]
   rw [formL_many l d h.1 h.2.2.2.2.2.2.2.2.2.2.2]
theorem formL_many : ∀ (l : List T) (d : Int), 1 <= d -> formL l (d - 1) -> manyL l d = sizeL l
 | [], d, _, _ => by simp [manyL, sizeL]
 | t :: l, d, hd, h => by
   simp only [formL] at h
   simp only [manyL, sizeL]
   rw [if_pos (by omega), form_many t (d - 1) h.1, formL_many l d hd h.2]
end
theorem okT_size {t : T} (h : okT t) : sizeT t <= 60 := by rw [<- form_many t 6 h.1]; exact h.2
theorem sizeL_len : ∀ l : List T, (l.length : Int) <= sizeL l
 | [] => by simp [sizeL]
 | t :: l => by
   have h1 := sizeL_len l
   have h2 : 1 <= sizeT t := by obtain ⟨k, n, s, ks, r⟩ := t; have := manyL_le r 0; simp only [sizeT]; omega
   simp only [sizeL, List.length_cons]; omega
theorem sizeT_pos (t : T) : 1 <= sizeT t := by obtain ⟨k, n, s, ks, r⟩ := t; have := manyL_le r 0; simp only [sizeT]; omega
theorem sizeL_nn (l : List T) : 0 <= sizeL l := by have := manyL_le l 0; omega
mutual
theorem form_fit : ∀ (t : T) (d : Int), formT t d -> sizeT t <= 60 -> t.fit 60
 | .mk k n s ks l, d, h, hs => by
   simp only [formT] at h
   obtain ⟨h1, h2, h3, h4, h5, h6, h7, h8, h9, h10, h11, h12⟩ := h
   simp only [sizeT] at hs
   have hl := sizeL_len l
   have h13 := h10.2
   refine ⟨by unfold i64; omega, by unfold i64; omega, by unfold lenB; omega, ⟨?_, ?_⟩, by unfold lenB; omega, formL_fit l (d - 1) h12 (by omega)⟩
   ·rcases h4 with rfl | rfl
    ·have := (h11 rfl).1
     unfold lenB; omega
    ·simp [lenB]
   ·intro x hx
    rcases h4 with rfl | rfl
    ·obtain ⟨i, hi⟩ := List.getElem?_of_mem hx
     have := (okKeys_at (h11 rfl).2 hi).2
     unfold lenB; omega
    ·simp at hx
theorem formL_fit : ∀ (l : List T) (d : Int), formL l d -> sizeL l <= 59 -> fitL 60 l
 | [], _, _, _ => trivial
 | t :: l, d, h, hs => by
   simp only [formL] at h
   simp only [sizeL] at hs
   have h1 := sizeT_pos t
   have h2 := sizeL_nn l
   exact ⟨form_fit t d h.1 (by omega), formL_fit l d h.2 (by omega)⟩
end
theorem okT_fit {t : T} (h : okT t) : t.fit 60 := form_fit t 6 h.1 (okT_size h)
end Go.Proofs.Pw
namespace Go.Proofs.Pw
open Go
def bL (l : List UInt8) : ByteArray := ⟨l.toArray⟩
theorem bL_app (a b : List UInt8) : bL (a ++ b) = bL a ++ bL b := by
 unfold bL
 apply ByteArray.ext
 simp [ByteArray.data_append]
theorem bL_data (s : ByteArray) : bL s.data.toList = s := by cases s; simp [bL]
theorem bL_size (l : List UInt8) : (bL l).size = l.length := by simp [bL, ByteArray.size]
theorem bL_toList (l : List UInt8) : (bL l).data.toList = l := by simp [bL]
theorem ba_assoc (a b c : ByteArray) : a ++ b ++ c = a ++ (b ++ c) := ByteArray.append_assoc
theorem ba_nil (a : ByteArray) : ⟨#[]⟩ ++ a = a := by
 apply ByteArray.ext
 simp [ByteArray.data_append]
theorem ba_nil' (a : ByteArray) : a ++ ⟨#[]⟩ = a := by
 apply ByteArray.ext
 simp [ByteArray.data_append]
def itoaB (n : Int) : ByteArray := bL (Lib.itoa n)
def joinB (xs : List ByteArray) (sep : ByteArray) : ByteArray := bL (Lib.join (xs.map (·.data.toList)) sep.data.toList)
theorem itoaB_size {n : Int} (h0 : -9223372036854775808 <= n) (h1 : n <= 9223372036854775807) : (itoaB n).size <= 21 := by
 unfold itoaB
 rw [bL_size]; exact Lib.itoa_length_le n h0 h1
theorem joinTail_app (sep : List UInt8) (a b : List (List UInt8)) : Lib.joinTail sep (a ++ b) = Lib.joinTail sep a ++ Lib.joinTail sep b := by simp [Lib.joinTail]
theorem joinB_nil (sep : ByteArray) : joinB [] sep = ⟨#[]⟩ := rfl
theorem joinB_one (x sep : ByteArray) : joinB [x] sep = x := by
 unfold joinB
 simp only [List.map_cons, List.map_nil, Lib.join_one, bL_data]
theorem joinB_snoc {xs : List ByteArray} (h : xs ≠ []) (y sep : ByteArray) : joinB (xs ++ [y]) sep = joinB xs sep ++ sep ++ y := by
 cases xs with
 | nil => exact absurd rfl h
 | cons x r =>
   unfold joinB
   simp only [List.map_append, List.map_cons, List.map_nil, List.cons_append, Lib.join_cons, joinTail_app]
   rw [bL_app, bL_app, bL_app, ba_assoc, ba_assoc]
   congr 2
   simp only [Lib.joinTail, List.map_cons, List.map_nil, List.flatten_cons, List.flatten_nil, List.append_nil]
   rw [bL_app, bL_data, bL_data]
def lensB : List ByteArray -> Nat
 | [] => 0
 | x :: r => x.size + lensB r
theorem lensB_app (a b : List ByteArray) : lensB (a ++ b) = lensB a + lensB b := by
 induction a with
 | nil => simp [lensB]
 | cons x a ih => simp only [List.cons_append, lensB, ih]; omega
theorem ba_len (x : ByteArray) : x.data.toList.length = x.size := Array.length_toList
theorem lensB_eq (xs : List ByteArray) : Lib.lens (xs.map (·.data.toList)) = lensB xs := by
 induction xs with
 | nil => rfl
 | cons x r ih =>
   simp only [Lib.lens, List.map_cons, List.sum_cons, lensB] at ih ⊢
   rw [ih, ba_len]
theorem joinB_size (sep : ByteArray) (xs : List ByteArray) : (joinB xs sep).size <= lensB xs + xs.length * sep.size := by
 cases xs with
 | nil => rw [joinB_nil]; exact Nat.zero_le _
 | cons x r =>
   unfold joinB
   rw [bL_size, List.map_cons, Lib.join_cons, List.length_append, Lib.joinTail_length, lensB_eq]
   simp only [List.length_map, lensB, List.length_cons, Nat.add_mul, Nat.one_mul]
   have e1 : x.data.toList.length = x.size := ba_len x
   have e2 : sep.data.toList.length = sep.size := ba_len sep
   rw [e1, e2, Nat.mul_comm sep.size]; omega
mutual
def textT : T -> ByteArray
 | .mk k n s ks l => if k = 0 then ⟨#[110, 117, 108, 108]⟩ else if k = 1 then ⟨#[102, 97, 108, 115, 101]⟩ else if k = 2 then ⟨#[116, 114, 117, 101]⟩ else if k = 3 then itoaB n
   else if k = 4 then ⟨#[39]⟩ ++ s ++ ⟨#[39]⟩ else if k = 6 then ⟨#[123]⟩ ++ joinB (textLs k ks l) ⟨#[44]⟩ ++ ⟨#[125]⟩ else ⟨#[91]⟩ ++ joinB (textLs k ks l) ⟨#[44]⟩ ++ ⟨#[93]⟩
def textLs (k : Int) : List ByteArray -> List T -> List ByteArray
 | _, [] => []
 | ks, t :: l => (if k = 6 then ks.headD ⟨#[]⟩ ++ ⟨#[58]⟩ ++ textT t else textT t) :: textLs k ks.tail l
end
theorem textLs_len (k : Int) : ∀ (ks : List ByteArray) (l : List T), (textLs k ks l).length = l.length
 | _, [] => by simp [textLs]
 | ks, t :: l => by simp [textLs, textLs_len k ks.tail l]
theorem textLs_take (k : Int) : ∀ (l : List T) (ks : List ByteArray) (i : Nat) (t : T), l[i]? = some t -> (textLs k ks l).take (i + 1) = (textLs k ks l).take i ++ [if k = 6 then ks.getD i ⟨#[]⟩ ++ ⟨#[58]⟩ ++ textT t else textT t]
 | [], _, _, _, h => by simp at h
 | x :: l, ks, 0, t, h => by
   simp at h; subst h
   cases ks <;> simp [textLs]
 | x :: l, ks, i + 1, t, h => by
   have := textLs_take k l ks.tail i t (by simpa using h)
   simp only [textLs, List.take_succ_cons, List.cons_append]
   rw [this]
   cases ks <;> simp
mutual
theorem textT_size : ∀ {t : T} {d : Int}, formT t d -> ((textT t).size : Int) + 14 <= 40 * sizeT t
 | .mk k n s ks l, d, h => by
   simp only [formT] at h
   obtain ⟨h1, h2, h3, h4, h5, h6, h7, h8, h9, h10, h11, h12⟩ := h
   have hs := h10.2
   have hn := itoaB_size (n := n) (by omega) (by omega)
   have hl := textLs_size (k := k) (ks := ks) (fun s hs => by
    rcases h4 with h4 | h4
    ·obtain ⟨i, hi⟩ := List.getElem?_of_mem hs
     exact (okKeys_at (h11 h4).2 hi).2
    ·subst h4; simp at hs) h12
   have hp := sizeL_nn l
   have hj := joinB_size ⟨#[44]⟩ (textLs k ks l)
   rw [textLs_len] at hj
   have hc : (ByteArray.mk #[44]).size = 1 := rfl
   rw [hc] at hj
   have e1 : (ByteArray.mk #[39]).size = 1 := rfl
   have e2 : (ByteArray.mk #[123]).size = 1 := rfl
   have e3 : (ByteArray.mk #[125]).size = 1 := rfl
   have e4 : (ByteArray.mk #[91]).size = 1 := rfl
   have e5 : (ByteArray.mk #[93]).size = 1 := rfl
   have e6 : (ByteArray.mk #[110, 117, 108, 108]).size = 4 := rfl
   have e7 : (ByteArray.mk #[102, 97, 108, 115, 101]).size = 5 := rfl
   have e8 : (ByteArray.mk #[116, 114, 117, 101]).size = 4 := rfl
   simp only [textT, sizeT]
   repeat' split
   all_goals try simp only [ByteArray.size_append, e1, e2, e3, e4, e5, e6, e7, e8]
   all_goals omega
theorem textLs_size {k : Int} : ∀ {ks : List ByteArray} {l : List T} {d : Int}, (∀ s ∈ ks, s.size <= 12) -> formL l d -> (lensB (textLs k ks l) : Int) + l.length <= 40 * sizeL l
 | _, [], _, _, _ => by simp [textLs, lensB, sizeL]
 | ks, t :: l, d, hk, h => by
   simp only [formL] at h
   have h1 := textT_size h.1
   have h2 := textLs_size (k := k) (ks := ks.tail) (fun s hs => hk s (List.mem_of_mem_tail hs)) h.2
   have h3 : (ks.headD ⟨#[]⟩).size <= 12 := by
    cases ks with
    | nil => decide
    | cons a r => exact hk a (by simp)
   have e1 : (ByteArray.mk #[58]).size = 1 := rfl
   simp only [textLs, lensB, sizeL, List.length_cons]
   split
   ·rw [ByteArray.size_append, ByteArray.size_append, e1]; omega
   ·omega
end
theorem sizeL_mem' {l : List T} {t : T} (h : t ∈ l) : sizeT t <= sizeL l := by
 induction l with
 | nil => simp at h
 | cons x l ih =>
   have := sizeL_nn l; have := sizeT_pos x
   simp only [sizeL]
   rcases List.mem_cons.1 h with rfl | h
   ·omega
   ·have := ih h; omega
theorem len_sizeL : ∀ l : List T, (l.length : Int) <= sizeL l
 | [] => by simp [sizeL]
 | t :: l => by have := sizeT_pos t; have := len_sizeL l; simp only [List.length_cons, sizeL]; omega
theorem lensB_take (l : List ByteArray) (i : Nat) : lensB (l.take i) <= lensB l := by
 have h := lensB_app (l.take i) (l.drop i)
 rw [List.take_append_drop] at h
 omega
theorem sep_size : (ByteArray.mk #[44]).size = 1 := rfl
theorem join_take {k : Int} {ks : List ByteArray} {l : List T} {d : Int} (hk : ∀ s ∈ ks, s.size <= 12) (h : formL l d) (hs : sizeL l <= 60) (i : Nat) : (joinB ((textLs k ks l).take i) ⟨#[44]⟩).size <= 2400 := by
 have h1 := textLs_size (k := k) (ks := ks) hk h
 have h2 := joinB_size ⟨#[44]⟩ ((textLs k ks l).take i)
 have h3 := lensB_take (textLs k ks l) i
 have h4 : ((textLs k ks l).take i).length <= l.length := by rw [List.length_take, textLs_len]; omega
 rw [sep_size] at h2
 omega
theorem join_step {xs : List ByteArray} {i : Nat} {y : ByteArray} (h : xs.take (i + 1) = xs.take i ++ [y]) (hl : i < xs.length) : joinB (xs.take (i + 1)) ⟨#[44]⟩ = if i = 0 then y else joinB (xs.take i) ⟨#[44]⟩ ++ ⟨#[44]⟩ ++ y := by
 rw [h]
 split
 ·rename_i h0; subst h0
  simp only [List.take_zero, List.nil_append, joinB_one]
 ·rename_i h0
  exact joinB_snoc (fun e => by have := congrArg List.length e; rw [List.length_take, List.length_nil] at this; omega) _ _
theorem keys_small {k n : Int} {s : ByteArray} {ks : List ByteArray} {l : List T} {d : Int} (h : formT (.mk k n s ks l) d) : ∀ s ∈ ks, s.size <= 12 := fun s hs => by
 simp only [formT] at h
 obtain ⟨h1, h2, h3, h4, h5, h6, h7, h8, h9, h10, h11, h12⟩ := h
 rcases h4 with h4 | h4
 ·obtain ⟨i, hi⟩ := List.getElem?_of_mem hs
  exact (okKeys_at (h11 h4).2 hi).2
 ·subst h4; simp at hs
def decB (u : Nat) : ByteArray := bL (Lib.decDigits u)
theorem itoaB_neg {n : Int} (h : n < 0) : itoaB n = ⟨#[45]⟩ ++ itoaB (0 - n) := by
 unfold itoaB Lib.itoa
 rw [if_pos h, if_neg (by omega)]
 have e : (0 - n).toNat = n.natAbs := by omega
 rw [e, show (45 :: Lib.decDigits n.natAbs) = [45] ++ Lib.decDigits n.natAbs from rfl, bL_app]
 rfl
theorem itoaB_pos {n : Int} (h : 0 <= n) : itoaB n = decB n.toNat := by
 unfold itoaB Lib.itoa decB
 rw [if_neg (by omega)]
theorem decB_small {u : Nat} (h : u < 10) : decB u = bytesS [((48 + u : Nat) : Int)] := by
 unfold decB
 rw [Lib.decDigits, dif_pos h]
 rfl
theorem decB_step {u : Nat} (h : ¬ u < 10) (out : ByteArray) : decB u ++ out = decB (u / 10) ++ (bytesS [((48 + u % 10 : Nat) : Int)] ++ out) := by
 unfold decB
 rw [Lib.decDigits, dif_neg h, bL_app, ba_assoc]
 rfl
def wtab : List ByteArray := [⟨#[]⟩, ⟨#[46]⟩, ⟨#[]⟩, ⟨#[]⟩, ⟨#[]⟩, ⟨#[91, 93]⟩, ⟨#[112, 105, 112, 101]⟩, ⟨#[98, 111, 116, 104]⟩, ⟨#[105, 102]⟩, ⟨#[97, 100, 100]⟩, ⟨#[108, 101, 115, 115]⟩, ⟨#[115, 97, 109, 101]⟩, ⟨#[114, 111, 119]⟩, ⟨#[108, 101, 110]⟩, ⟨#[107, 101, 121, 115]⟩, ⟨#[110, 111, 116]⟩, ⟨#[101, 108, 115, 101]⟩, ⟨#[116, 114, 121]⟩, ⟨#[110, 111, 110, 101]⟩, ⟨#[98, 97, 100]⟩, ⟨#[116, 117, 114, 110]⟩, ⟨#[]⟩]
theorem wtab_size : ∀ i : Fin 22, (wtab.getD i.val ⟨#[]⟩).size <= 4 := by decide
def headB (k n : Int) (s : ByteArray) (v : T) : ByteArray :=
 if k = 2 then ⟨#[61]⟩ ++ textT v else if k = 3 then ⟨#[46]⟩ ++ s ++ ⟨#[58]⟩ else if k = 4 then ⟨#[91]⟩ ++ itoaB n ++ ⟨#[93]⟩ else if k = 21 then ⟨#[109, 97, 107, 101, 58]⟩ ++ s else wtab.getD k.toNat ⟨#[]⟩
mutual
def textF : F -> ByteArray
 | .mk k n s v l => headB k n s v ++ textFs l
def textFs : List F -> ByteArray
 | [] => ⟨#[]⟩
 | t :: l => ⟨#[32]⟩ ++ textF t ++ textFs l
end
theorem headB_size {k n : Int} {s : ByteArray} {v : T} (hk : 0 <= k /\ k <= 21) (hn : -60 <= n /\ n < 60) (hs : s.size <= 12) (hv : okT v) : (headB k n s v).size <= 2402 := by
 have h1 := textT_size hv.1
 have h2 := okT_size hv
 have h3 := itoaB_size (n := n) (by omega) (by omega)
 have h4 := wtab_size ⟨k.toNat, by omega⟩
 simp only at h4
 have e1 : (ByteArray.mk #[61]).size = 1 := rfl
 have e2 : (ByteArray.mk #[46]).size = 1 := rfl
 have e3 : (ByteArray.mk #[58]).size = 1 := rfl
 have e4 : (ByteArray.mk #[91]).size = 1 := rfl
 have e5 : (ByteArray.mk #[93]).size = 1 := rfl
 have e6 : (ByteArray.mk #[109, 97, 107, 101, 58]).size = 5 := rfl
 unfold headB
 repeat' split
 all_goals try simp only [ByteArray.size_append, e1, e2, e3, e4, e5, e6]
 all_goals omega
mutual
theorem textF_size : ∀ {t : F} {d : Int}, formF t d -> ((textF t).size : Int) + 1 <= 2500 * sizeF t
 | .mk k n s v l, d, h => by
   simp only [formF] at h
   obtain ⟨h1, h2, h3, h4, h5, h6, h7, h8, h9⟩ := h
   have h10 := kidsOf_range (show 0 <= kidsOf k by omega)
   have a := headB_size (s := s) (v := v) (show 0 <= k /\ k <= 21 by omega) ⟨h5, h6⟩ h4.2 h7
   have b := textFs_size h8
   have c := manyFL_le l 0
   simp only [textF, sizeF, ByteArray.size_append]; omega
theorem textFs_size : ∀ {l : List F} {d : Int}, formFL l d -> ((textFs l).size : Int) <= 2500 * sizeFL l
 | [], _, _ => by simp [textFs, sizeFL, ByteArray.size]
 | t :: l, d, h => by
   simp only [formFL] at h
   have h1 := textF_size h.1
   have h2 := textFs_size h.2
   have e1 : (ByteArray.mk #[32]).size = 1 := rfl
   simp only [textFs, sizeFL, ByteArray.size_append, e1]; omega
end
end Go.Proofs.Pw
