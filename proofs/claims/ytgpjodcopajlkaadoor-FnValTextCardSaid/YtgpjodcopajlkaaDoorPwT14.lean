/- Ways: what they are, what lies at their end, and what is put there. -/
import Derived.Test.YtgpjodcopajlkaaDoorPwT13
import Derived.Test.YtgpjodcopajlkaaDoorPwT12
import Derived.Test.YtgpjodcopajlkaaDoorPwT9
import Derived.Test.YtgpjodcopajlkaaDoorPwT11
import Derived.Lib.AtoiAllCases
set_option linter.unusedSimpArgs false
set_option linter.unusedVariables false
set_option linter.unusedSectionVars false
set_option maxRecDepth 20000
namespace Go.Proofs.Pw
def stpOk (s : Stp) : Prop := if s.map = true then okS s.key /\ s.at' = 0 else s.key = ⟨#[]⟩ /\ -60 <= s.at' /\ s.at' <= 59
noncomputable instance (s : Stp) : Decidable (stpOk s) := Classical.propDecidable _
def wayOk (p : List Stp) : Prop := (∀ s ∈ p, stpOk s) /\ p.length <= 6
noncomputable instance (p : List Stp) : Decidable (wayOk p) := Classical.propDecidable _
def atOk (v : T) : Prop := v.kind = 5 \/ v.kind = 0
noncomputable instance (v : T) : Decidable (atOk v) := Classical.propDecidable _
def canGo (s : Stp) (v : T) : Prop := if s.map = true then getOk v else atOk v
noncomputable instance (s : Stp) (v : T) : Decidable (canGo s v) := Classical.propDecidable _
theorem Stp.enc_eq {a b : Stp} : a.enc = b.enc ↔ a = b := ⟨fun h => by
 obtain ⟨m, k, n⟩ := a
 obtain ⟨m', k', n'⟩ := b
 simp only [Stp.enc, List.cons.injEq, C.bool.injEq, C.str.injEq, C.int.injEq, true_and, and_true] at h
 obtain ⟨rfl, rfl, rfl⟩ := h
 rfl, fun h => h ▸ rfl⟩
theorem Stp.len3 (s : Stp) : s.enc.length = 3 := rfl
theorem Stp.take3 (s : Stp) : s.enc.take 3 = s.enc := rfl
theorem Stp.takeQ (s : Stp) : (s.enc.map Q.c).take 3 = s.enc.map Q.c := rfl
attribute [go_sem] Stp.take3 Stp.takeQ Stp.len3
end Go.Proofs.Pw
namespace Go.Proofs.Pw
def digF : Nat -> Int -> ByteArray -> ByteArray
 | 0, _, out => out
 | f + 1, k, out => if 0 < k then digF f (k.tdiv 10) (bytesS [48 + k.tmod 10] ++ out) else out
def mkS (k : Int) : ByteArray := if k <= 0 then ⟨#[109, 48]⟩ else ⟨#[109]⟩ ++ digF k.toNat k ⟨#[]⟩
def mkKs : List ByteArray -> Int -> List ByteArray
 | [], _ => []
 | _ :: r, k => mkS k :: mkKs r (k + 1)
mutual
def nmT : T -> Int
 | .mk _ _ _ ks l => 3 + ks.length + nmL l
def nmL : List T -> Int
 | [] => 0
 | t :: l => nmT t + nmL l
end
mutual
def mkT : T -> Int -> T
 | .mk _ _ _ ks l, k => .mk k (k + 1) (mkS (k + 2)) (mkKs ks (k + 3)) (mkL l (k + 3 + ks.length))
def mkL : List T -> Int -> List T
 | [], _ => []
 | t :: l, k => mkT t k :: mkL l (k + nmT t)
end
theorem mkKs_len : ∀ {ks : List ByteArray} {k : Int}, (mkKs ks k).length = ks.length
 | [], _ => rfl
 | _ :: r, k => by simp [mkKs, mkKs_len (ks := r)]
mutual
theorem nmT_nn : ∀ t : T, 3 <= nmT t
 | .mk _ _ _ ks l => by have := nmL_nn l; simp only [nmT]; omega
theorem nmL_nn : ∀ l : List T, 0 <= nmL l
 | [] => by simp [nmL]
 | t :: l => by have := nmT_nn t; have := nmL_nn l; simp only [nmL]; omega
end
mutual
theorem nmT_mk : ∀ (t : T) (k : Int), nmT (mkT t k) = nmT t
 | .mk _ _ _ ks l, k => by simp only [mkT, nmT, mkKs_len, nmL_mk l]
theorem nmL_mk : ∀ (l : List T) (k : Int), nmL (mkL l k) = nmL l
 | [], _ => rfl
 | t :: l, k => by simp only [mkL, nmL, nmT_mk t, nmL_mk l]
end
theorem mkKs_mk : ∀ (ks : List ByteArray) (k : Int), mkKs (mkKs ks k) k = mkKs ks k
 | [], _ => rfl
 | _ :: r, k => by simp only [mkKs, mkKs_mk r]
mutual
theorem mkT_mk : ∀ (t : T) (k : Int), mkT (mkT t k) k = mkT t k
 | .mk _ _ _ ks l, k => by simp only [mkT, mkKs_mk, mkKs_len, mkL_mk l]
theorem mkL_mk : ∀ (l : List T) (k : Int), mkL (mkL l k) k = mkL l k
 | [], _ => rfl
 | t :: l, k => by simp only [mkL, mkT_mk t, nmT_mk t, mkL_mk l]
end
mutual
theorem nmT_sz : ∀ {t : T} {left : Int}, 0 <= left -> 0 <= szT t left -> nmT t <= 3 + 3 * (left - szT t left)
 | .mk k n s ks l, left, h, h0 => by
   simp only [szT] at h0 ⊢
   split at h0
   ·omega
   ·rename_i c1
    rw [if_neg c1]
    split at h0
    ·omega
    ·rename_i c2
     rw [if_neg c2]
     split at h0
     ·omega
     ·rename_i c3
      rw [if_neg c3]
      have h1 := szStrS_le (ks := ks) (left := left - s.size) (by omega)
      have h2 : szStrS ks (left - s.size) <= left - s.size - ks.length := by
       have := h1; simp only [szStrS] at c2 ⊢; split
       ·rename_i c; rw [if_pos c] at c2; omega
       ·exact (szStr_le (by omega)).1
      have h3 := nmL_sz (l := l) (left := szStrS ks (left - s.size) - l.length) (by omega) h0
      simp only [nmT]; omega
theorem nmL_sz : ∀ {l : List T} {left : Int}, 0 <= left -> 0 <= szTL l left -> nmL l <= 3 * l.length + 3 * (left - szTL l left)
 | [], left, h, h0 => by simp [nmL, szTL]
 | t :: r, left, h, h0 => by
   simp only [szTL] at h0 ⊢
   split at h0
   ·omega
   ·rename_i c1
    rw [if_neg c1]
    have h1 := nmT_sz (t := t) h (by omega)
    have h2 := nmL_sz (l := r) (left := szT t left) (by omega) h0
    simp only [nmL, List.length_cons]; omega
end
end Go.Proofs.Pw
namespace Go.Proofs.Pw
theorem szStr_fit : ∀ {ks : List ByteArray} {left : Int}, 0 <= left -> 0 <= szStr ks left -> ∀ s ∈ ks, (s.size : Int) <= left := by
 intro ks
 induction ks with
 | nil => intro left _ _ s hs; simp at hs
 | cons x r ih =>
   intro left h0 h s hs
   simp only [szStr] at h
   split at h
   ·omega
   ·rcases List.mem_cons.1 hs with rfl | hs
    ·omega
    ·have := ih (left := left - x.size) (by omega) h s hs; omega
theorem szStrS_fit {ks : List ByteArray} {left : Int} (h0 : 0 <= left) (hl : left <= 1048576) (h : 0 <= szStrS ks left) : strsFit 1048576 ks := by
 simp only [szStrS] at h
 split at h
 ·omega
 ·refine ⟨by unfold lenB; omega, fun s hs => ?_⟩
  have := szStr_fit (left := left - ks.length) (by omega) h s hs
  unfold lenB; omega
mutual
theorem szT_fit : ∀ {t : T} {left : Int} {B : Int}, 0 <= left -> left <= 1048576 -> t.fit B -> 0 <= szT t left -> t.fit 1048576 /\ sizeT t <= left - szT t left + 1
 | .mk k n s ks l, left, B, h0, hl, hf, h => by
   simp only [T.fit] at hf ⊢
   simp only [szT, sizeT] at h ⊢
   have e1 := szStrS_le (ks := ks) (left := left - s.size)
   split at h
   ·omega
   ·split at h
    ·omega
    ·split at h
     ·omega
     ·rename_i a b c
      rw [if_neg a, if_neg b, if_neg c]
      have h1 := szStrS_fit (ks := ks) (left := left - s.size) (by omega) (by omega) (by omega)
      have h2 := szTL_fit (l := l) (B := B) (left := szStrS ks (left - s.size) - l.length) (by omega) (by omega) hf.2.2.2.2.2 h
      refine ⟨⟨hf.1, hf.2.1, by unfold lenB; omega, h1, by unfold lenB; omega, h2.1⟩, by omega⟩
theorem szTL_fit : ∀ {l : List T} {left : Int} {B : Int}, 0 <= left -> left <= 1048576 -> fitL B l -> 0 <= szTL l left -> fitL 1048576 l /\ sizeL l <= left - szTL l left + l.length
 | [], left, B, h0, hl, hf, h => by simp [fitL, sizeL, szTL]
 | t :: r, left, B, h0, hl, hf, h => by
   simp only [fitL] at hf ⊢
   simp only [szTL, sizeL, List.length_cons] at h ⊢
   have e1 := szT_le (t := t) h0
   split at h
   ·omega
   ·rename_i a
    rw [if_neg a]
    have h1 := szT_fit (t := t) h0 hl hf.1 (by omega)
    have h2 := szTL_fit (l := r) (left := szT t left) (by omega) (by omega) hf.2 h
    exact ⟨⟨h1.1, h2.1⟩, by omega⟩
end
end Go.Proofs.Pw
namespace Go.Proofs.Pw
mutual
theorem szF_fit : ∀ {t : F} {left : Int} {B : Int}, 0 <= left -> left <= 1048576 -> t.fit B -> 0 <= szF t left -> t.fit 1048576 /\ smallF t /\ sizeF t <= left - szF t left + 1
 | .mk k n s v l, left, B, h0, hl, hf, h => by
   simp only [F.fit] at hf ⊢
   simp only [szF, sizeF, smallF] at h ⊢
   have e1 := szT_le (t := v) (left := left - s.size)
   split at h
   ·omega
   ·split at h
    ·omega
    ·split at h
     ·omega
     ·rename_i a b c
      rw [if_neg a, if_neg b, if_neg c]
      have h1 := szT_fit (t := v) (B := B) (left := left - s.size) (by omega) (by omega) hf.2.2.2.1 (by omega)
      have h2 := szFL_fit (l := l) (B := B) (left := szT v (left - s.size) - l.length) (by omega) (by omega) hf.2.2.2.2.2 h
      refine ⟨⟨hf.1, hf.2.1, by unfold lenB; omega, h1.1, by unfold lenB; omega, h2.1⟩, ⟨by omega, h2.2.1⟩, by omega⟩
theorem szFL_fit : ∀ {l : List F} {left : Int} {B : Int}, 0 <= left -> left <= 1048576 -> fitF B l -> 0 <= szFL l left -> fitF 1048576 l /\ smallFL l /\ sizeFL l <= left - szFL l left + l.length
 | [], left, B, h0, hl, hf, h => by simp [fitF, sizeFL, szFL, smallFL]
 | t :: r, left, B, h0, hl, hf, h => by
   simp only [fitF] at hf ⊢
   simp only [szFL, sizeFL, smallFL, List.length_cons] at h ⊢
   have e1 := szF_le (t := t) h0
   split at h
   ·omega
   ·rename_i a
    rw [if_neg a]
    have h1 := szF_fit (t := t) h0 hl hf.1 (by omega)
    have h2 := szFL_fit (l := r) (left := szF t left) (by omega) (by omega) hf.2 h
    exact ⟨⟨h1.1, h2.1⟩, ⟨h1.2.1, h2.2.1⟩, by omega⟩
end
end Go.Proofs.Pw
namespace Go.Proofs.Pw
end Go.Proofs.Pw
namespace Go.Proofs.Pw
section
variable {B B' : Int} (hB : B <= B')
include hB
theorem lenB_le {n : Nat} (h : lenB B n) : lenB B' n := by unfold lenB at *; omega
theorem strsFit_le {ks : List ByteArray} (h : strsFit B ks) : strsFit B' ks := ⟨lenB_le hB h.1, fun s hs => lenB_le hB (h.2 s hs)⟩
mutual
theorem T.fit_le : ∀ {t : T}, t.fit B -> t.fit B'
 | .mk k n s ks l, h => by
   simp only [T.fit] at h ⊢
   exact ⟨h.1, h.2.1, lenB_le hB h.2.2.1, strsFit_le hB h.2.2.2.1, lenB_le hB h.2.2.2.2.1, fitL_le h.2.2.2.2.2⟩
theorem fitL_le : ∀ {l : List T}, fitL B l -> fitL B' l
 | [], _ => trivial
 | t :: l, h => by
   simp only [fitL] at h ⊢
   exact ⟨T.fit_le h.1, fitL_le h.2⟩
end
mutual
theorem F.fit_le : ∀ {t : F}, t.fit B -> t.fit B'
 | .mk k n s v l, h => by
   simp only [F.fit] at h ⊢
   exact ⟨h.1, h.2.1, lenB_le hB h.2.2.1, T.fit_le hB h.2.2.2.1, lenB_le hB h.2.2.2.2.1, fitF_le h.2.2.2.2.2⟩
theorem fitF_le : ∀ {l : List F}, fitF B l -> fitF B' l
 | [], _ => trivial
 | t :: l, h => by
   simp only [fitF] at h ⊢
   exact ⟨F.fit_le h.1, fitF_le h.2⟩
end
theorem Tk.fit_le {t : Tk} (h : t.fit B) : t.fit B' := ⟨T.fit_le hB h.1, lenB_le hB h.2.1, fitF_le hB h.2.2⟩
theorem Gn.fit_le {g : Gn} (h : g.fit B) : g.fit B' := ⟨lenB_le hB h.1, fun t ht => Tk.fit_le hB (h.2.1 t ht), h.2.2⟩
end
end Go.Proofs.Pw
namespace Go.Proofs.Pw
end Go.Proofs.Pw
namespace Go.Proofs.Pw
structure Ed where
 path : List Stp
 was : T
 had : Bool
 now : T
 has : Bool
noncomputable instance : DecidableEq Ed := fun a b => Classical.propDecidable (a = b)
def Ed.enc (e : Ed) : List C := .row 3 (encS e.path) :: (e.was.enc ++ (.bool e.had :: (e.now.enc ++ [.bool e.has])))
def encE (l : List Ed) : List (List C) := l.map Ed.enc
theorem encE_len (l : List Ed) : (encE l).length = l.length := by simp [encE]
theorem Ed.enc_len (e : Ed) : e.enc.length = 13 := by simp [Ed.enc, T.enc_len]
theorem Ed.enc_inj {a b : Ed} (h : a.enc = b.enc) : a = b := by
 obtain ⟨p, w, hd, n, hs⟩ := a
 obtain ⟨p', w', hd', n', hs'⟩ := b
 simp only [Ed.enc, List.cons.injEq, C.row.injEq, true_and] at h
 obtain ⟨h1, h2⟩ := h
 obtain ⟨h3, h4⟩ := List.append_inj h2 (by rw [T.enc_len, T.enc_len])
 simp only [List.cons.injEq, C.bool.injEq] at h4
 obtain ⟨h5, h6⟩ := h4
 obtain ⟨h7, h8⟩ := List.append_inj h6 (by rw [T.enc_len, T.enc_len])
 simp only [List.cons.injEq, C.bool.injEq, and_true] at h8
 rw [encS_inj h1, T.enc_inj h3, h5, T.enc_inj h7, h8]
theorem Ed.enc_eq {a b : Ed} : a.enc = b.enc ↔ a = b := ⟨Ed.enc_inj, fun h => h ▸ rfl⟩
theorem encE_inj : ∀ {a b : List Ed}, encE a = encE b -> a = b := by
 intro a
 induction a with
 | nil => intro b h; cases b with
   | nil => rfl
   | cons _ _ => simp [encE] at h
 | cons x a ih => intro b h; cases b with
   | nil => simp [encE] at h
   | cons y b =>
     simp only [encE, List.map_cons, List.cons.injEq] at h
     rw [Ed.enc_inj h.1, ih h.2]
theorem encE_eq {a b : List Ed} : encE a = encE b ↔ a = b := ⟨encE_inj, fun h => h ▸ rfl⟩
theorem Ed.enc_plain (e : Ed) : e.enc.all plainC = true := by
 simp only [Ed.enc, List.all_cons, List.all_append, T.enc_plain, List.all_nil, Bool.and_true, Bool.true_and]
 simp only [plainC, plainR_encS, Bool.and_true, Bool.true_and]
theorem plainR_encE (l : List Ed) : plainR (encE l) = true := by
 induction l with
 | nil => rfl
 | cons t l ih => simp only [encE, List.map_cons, plainR_cons, Ed.enc_plain]; exact ih
@[simp] theorem dtR_encE (l : List Ed) : dtR (encE l) = some (encE l) := dtR_plain (plainR_encE l)
theorem Ed.enc_toLs (i k o : Nat) (t : Ed) : toLs i k o t.enc = t.enc.map Q.c := toLs_plain t.enc_plain
theorem Ed.enc_take (t : Ed) : (t.enc.map Q.c).take 13 = t.enc.map Q.c := List.take_of_length_le (by simp [Ed.enc_len])
theorem Ed.enc_take13 (t : Ed) : t.enc.take 13 = t.enc := List.take_of_length_le (by simp [Ed.enc_len])
attribute [simp] plainR_encE
attribute [go_sem] encE_len Ed.enc_plain plainR_encE dtR_encE Ed.enc_toLs Ed.enc_take Ed.enc_take13
noncomputable def valText (t : T) : ByteArray := if okT t then textT t else ⟨#[]⟩
end Go.Proofs.Pw
namespace Go.Proofs.Pw
def dv (l : List UInt8) : Nat := l.foldl (fun r b => r * 10 + (b.toNat - 48)) 0
theorem dv_snoc (l : List UInt8) (b : UInt8) : dv (l ++ [b]) = dv l * 10 + (b.toNat - 48) := by simp [dv, List.foldl_append]
theorem dig_nat {x : Nat} (h : x < 10) : (UInt8.ofNat (48 + x)).toNat = 48 + x := by
 rw [UInt8.toNat_ofNat']
 omega
theorem dv_dec (u : Nat) : dv (Lib.decDigits u) = u := by
 induction u using Nat.strongRecOn with
 | _ u ih =>
   by_cases h : u < 10
   ·rw [Lib.decDigits, dif_pos h]
    have := dig_nat h
    simp only [dv, List.foldl_cons, List.foldl_nil, this]; omega
   ·rw [Lib.decDigits, dif_neg h, dv_snoc, ih (u / 10) (by omega), dig_nat (by omega)]; omega
theorem dec_dig (u : Nat) : ∀ b ∈ Lib.decDigits u, 48 <= b.toNat /\ b.toNat <= 57 := by
 induction u using Nat.strongRecOn with
 | _ u ih =>
   by_cases h : u < 10
   ·rw [Lib.decDigits, dif_pos h]
    intro b hb
    simp only [List.mem_singleton] at hb
    have := dig_nat h
    rw [hb]; omega
   ·rw [Lib.decDigits, dif_neg h]
    intro b hb
    rcases List.mem_append.1 hb with hb | hb
    ·exact ih (u / 10) (by omega) b hb
    ·simp only [List.mem_singleton] at hb
     have := dig_nat (show u % 10 < 10 by omega)
     rw [hb]; omega
theorem dec_ne (u : Nat) : Lib.decDigits u ≠ [] := by
 rw [Lib.decDigits]
 split <;> simp
theorem dec_inj {u v : Nat} (h : Lib.decDigits u = Lib.decDigits v) : u = v := by rw [<- dv_dec u, <- dv_dec v, h]
theorem itoa_chr (n : Int) : ∀ b ∈ Lib.itoa n, b.toNat = 45 \/ 48 <= b.toNat /\ b.toNat <= 57 := by
 intro b hb
 unfold Lib.itoa at hb
 split at hb
 ·rcases List.mem_cons.1 hb with rfl | hb
  ·exact .inl rfl
  ·exact .inr (dec_dig _ b hb)
 ·exact .inr (dec_dig _ b hb)
theorem dec_not45 (u : Nat) (l : List UInt8) : Lib.decDigits u ≠ 45 :: l := fun h => by
 have := dec_dig u 45 (by rw [h]; simp)
 have e : (45 : UInt8).toNat = 45 := rfl
 omega
theorem itoa_inj {m n : Int} (h : Lib.itoa m = Lib.itoa n) : m = n := by
 unfold Lib.itoa at h
 split at h <;> split at h
 ·have := dec_inj (List.cons.inj h).2; omega
 ·exact absurd h.symm (dec_not45 _ _)
 ·exact absurd h (dec_not45 _ _)
 ·have := dec_inj h; omega
def stops (P : UInt8 -> Prop) : List UInt8 -> Prop
 | [] => True
 | b :: _ => ¬ P b
theorem span_inj {P : UInt8 -> Prop} : ∀ {a b x y : List UInt8}, (∀ c ∈ a, P c) -> (∀ c ∈ b, P c) -> stops P x -> stops P y -> a ++ x = b ++ y -> a = b /\ x = y
 | [], [], x, y, _, _, _, _, h => ⟨rfl, h⟩
 | [], c :: b, x, y, _, hb, hx, _, h => by
   simp only [List.nil_append, List.cons_append] at h
   subst h
   exact absurd (hb c (by simp)) hx
 | c :: a, [], x, y, ha, _, _, hy, h => by
   simp only [List.nil_append, List.cons_append] at h
   subst h
   exact absurd (ha c (by simp)) hy
 | c :: a, d :: b, x, y, ha, hb, hx, hy, h => by
   simp only [List.cons_append, List.cons.injEq] at h
   obtain ⟨rfl, h⟩ := h
   obtain ⟨h1, h2⟩ := span_inj (fun c hc => ha c (List.mem_cons_of_mem _ hc)) (fun c hc => hb c (List.mem_cons_of_mem _ hc)) hx hy h
   exact ⟨by rw [h1], h2⟩
def tL (s : ByteArray) : List UInt8 := s.data.toList
theorem tL_app (a b : ByteArray) : tL (a ++ b) = tL a ++ tL b := by simp [tL, ByteArray.data_append]
theorem tL_inj {a b : ByteArray} (h : tL a = tL b) : a = b := by
 cases a; cases b
 simp only [tL, Array.toList_inj] at h
 rw [h]
theorem tL_itoa (n : Int) : tL (itoaB n) = Lib.itoa n := bL_toList _
theorem letter_of {s : ByteArray} (h : okS s) : ∀ c ∈ tL s, letter c := h.1
end Go.Proofs.Pw
namespace Go.Proofs.Pw
def stopsV : List UInt8 -> Prop
 | [] => True
 | b :: _ => b = 44 \/ b = 125 \/ b = 93 \/ b = 32
def TR : List T -> List UInt8
 | [] => []
 | t :: l => 44 :: (tL (textT t) ++ TR l)
def TM : List ByteArray -> List T -> List UInt8
 | _, [] => []
 | ks, t :: l => 44 :: (tL (ks.headD ⟨#[]⟩) ++ (58 :: (tL (textT t) ++ TM ks.tail l)))
theorem tL_join (xs : List ByteArray) : tL (joinB xs ⟨#[44]⟩) = Lib.join (xs.map tL) [44] := bL_toList _
theorem TR_tail (k : Int) (hk : k ≠ 6) : ∀ (ks : List ByteArray) (l : List T), Lib.joinTail [44] ((textLs k ks l).map tL) = TR l
 | _, [] => rfl
 | ks, t :: l => by
   have := TR_tail k hk ks.tail l
   simp only [Lib.joinTail, List.map_map] at this
   simp only [textLs, if_neg hk, List.map_cons, Lib.joinTail, List.map_map, List.flatten_cons, this, TR]
   rfl
theorem TM_tail : ∀ (ks : List ByteArray) (l : List T), Lib.joinTail [44] ((textLs 6 ks l).map tL) = TM ks l
 | _, [] => rfl
 | ks, t :: l => by
   have := TM_tail ks.tail l
   simp only [Lib.joinTail, List.map_map] at this
   have e : tL ⟨#[58]⟩ = [58] := rfl
   simp only [textLs, if_true, List.map_cons, tL_app, e, Lib.joinTail, List.map_map, List.flatten_cons, this, TM]
   simp
def TRj : List T -> List UInt8
 | [] => []
 | t :: l => tL (textT t) ++ TR l
def TMj : List ByteArray -> List T -> List UInt8
 | _, [] => []
 | ks, t :: l => tL (ks.headD ⟨#[]⟩) ++ (58 :: (tL (textT t) ++ TM ks.tail l))
theorem TRj_eq (k : Int) (hk : k ≠ 6) (ks : List ByteArray) (l : List T) : tL (joinB (textLs k ks l) ⟨#[44]⟩) = TRj l := by
 rw [tL_join]
 cases l with
 | nil => rfl
 | cons t l => simp only [textLs, if_neg hk, List.map_cons, Lib.join_cons, TR_tail k hk, TRj]
theorem TMj_eq (ks : List ByteArray) (l : List T) : tL (joinB (textLs 6 ks l) ⟨#[44]⟩) = TMj ks l := by
 rw [tL_join]
 cases l with
 | nil => rfl
 | cons t l =>
   have e : tL ⟨#[58]⟩ = [58] := rfl
   simp only [textLs, if_true, List.map_cons, Lib.join_cons, TM_tail, TMj, tL_app, e]
   simp
theorem tT_eq (k n : Int) (s : ByteArray) (ks : List ByteArray) (l : List T) : tL (textT (.mk k n s ks l)) =
 if k = 0 then [110, 117, 108, 108] else if k = 1 then [102, 97, 108, 115, 101] else if k = 2 then [116, 114, 117, 101] else if k = 3 then Lib.itoa n
 else if k = 4 then 39 :: (tL s ++ [39]) else if k = 6 then 123 :: (TMj ks l ++ [125]) else 91 :: (TRj l ++ [93]) := by
 have h3 : tL (⟨#[39]⟩ ++ s ++ ⟨#[39]⟩) = 39 :: (tL s ++ [39]) := by rw [tL_app, tL_app]; rfl
 have h6 : tL (⟨#[123]⟩ ++ joinB (textLs 6 ks l) ⟨#[44]⟩ ++ ⟨#[125]⟩) = 123 :: (TMj ks l ++ [125]) := by rw [tL_app, tL_app, TMj_eq]; rfl
 have h5 : k ≠ 6 -> tL (⟨#[91]⟩ ++ joinB (textLs k ks l) ⟨#[44]⟩ ++ ⟨#[93]⟩) = 91 :: (TRj l ++ [93]) := fun c => by rw [tL_app, tL_app, TRj_eq k c]; rfl
 rw [textT]
 split
 ·rfl
 split
 ·rfl
 split
 ·rfl
 split
 ·exact tL_itoa n
 split
 ·exact h3
 split
 ·rename_i c; subst c; exact h6
 ·rename_i c; exact h5 c
def clsV (c : UInt8) : Int := if c = 110 then 0 else if c = 102 then 1 else if c = 116 then 2 else if c = 39 then 4 else if c = 123 then 6 else if c = 91 then 5 else 3
theorem itoa_ne (n : Int) : ∃ c r, Lib.itoa n = c :: r := by
 unfold Lib.itoa
 split
 ·exact ⟨_, _, rfl⟩
 ·exact List.exists_cons_of_ne_nil (dec_ne _)
theorem kind_le {k n : Int} {s : ByteArray} {ks : List ByteArray} {l : List T} {d : Int} (h : formT (.mk k n s ks l) d) : 0 <= k /\ k <= 6 := by
 simp only [formT] at h
 exact ⟨h.2.2.2.2.2.1, h.2.2.2.2.2.2.1⟩
theorem textT_first {t : T} {d : Int} (h : formT t d) : ∃ c r, tL (textT t) = c :: r /\ clsV c = t.kind /\ c ≠ 93 /\ c ≠ 125 := by
 obtain ⟨k, n, s, ks, l⟩ := t
 have hk := kind_le h
 rw [tT_eq]
 show ∃ c r, _ = c :: r /\ clsV c = k /\ c ≠ 93 /\ c ≠ 125
 by_cases c0 : k = 0
 ·subst c0; exact ⟨_, _, rfl, rfl, by decide, by decide⟩
 by_cases c1 : k = 1
 ·subst c1; exact ⟨_, _, rfl, rfl, by decide, by decide⟩
 by_cases c2 : k = 2
 ·subst c2; exact ⟨_, _, rfl, rfl, by decide, by decide⟩
 by_cases c3 : k = 3
 ·subst c3
  obtain ⟨c, r, e⟩ := itoa_ne n
  have hc := itoa_chr n c (by rw [e]; simp)
  refine ⟨c, r, e, ?_, ?_, ?_⟩
  ·unfold clsV
   have hne : ∀ m : UInt8, m.toNat ≠ 45 -> ¬ (48 <= m.toNat /\ m.toNat <= 57) -> c ≠ m := fun m h1 h2 e => by rw [e] at hc; exact hc.elim h1 h2
   rw [if_neg (hne _ (by decide) (by decide)), if_neg (hne _ (by decide) (by decide)), if_neg (hne _ (by decide) (by decide)), if_neg (hne _ (by decide) (by decide)), if_neg (hne _ (by decide) (by decide)), if_neg (hne _ (by decide) (by decide))]
  ·intro e; rw [e] at hc; revert hc; decide
  ·intro e; rw [e] at hc; revert hc; decide
 by_cases c4 : k = 4
 ·subst c4; exact ⟨_, _, rfl, rfl, by decide, by decide⟩
 by_cases c6 : k = 6
 ·subst c6; exact ⟨_, _, rfl, rfl, by decide, by decide⟩
 have c5 : k = 5 := by omega
 subst c5; exact ⟨_, _, rfl, rfl, by decide, by decide⟩
theorem stops_digit {x : List UInt8} (h : stopsV x) : stops (fun b => b.toNat = 45 \/ 48 <= b.toNat /\ b.toNat <= 57) x := by
 cases x with
 | nil => trivial
 | cons b x => rcases h with rfl | rfl | rfl | rfl <;> (simp only [stops]; decide)
theorem not_letter {c : UInt8} (h : c.toNat < 97 \/ 122 < c.toNat) : ¬ letter c := by unfold letter; omega
theorem stop_letter (c : UInt8) (h : c.toNat < 97 \/ 122 < c.toNat) (x : List UInt8) : stops letter (c :: x) := not_letter h
theorem TR_stop (l : List T) (x : List UInt8) : stopsV (TR l ++ 93 :: x) := by
 cases l with
 | nil => exact .inr (.inr (.inl rfl))
 | cons t l => exact .inl rfl
theorem TM_stop (ks : List ByteArray) (l : List T) (x : List UInt8) : stopsV (TM ks l ++ 125 :: x) := by
 cases l with
 | nil => exact .inr (.inl rfl)
 | cons t l => exact .inl rfl
theorem letters_ne {s : ByteArray} (h : okS s) (z : List UInt8) (c : UInt8) (hc : c.toNat < 97 \/ 122 < c.toNat) (hz : c ≠ 58) (y : List UInt8) : tL s ++ 58 :: z ≠ c :: y := fun e => by
 cases hs : tL s with
 | nil => rw [hs] at e; simp at e; exact hz e.1.symm
 | cons b r =>
   rw [hs] at e
   simp at e
   have := h.1 b (by show b ∈ tL s; rw [hs]; simp)
   unfold letter at this
   rw [e.1] at this; omega
mutual
theorem textT_inj : ∀ (a : T) {b : T} {d d' : Int} {x y : List UInt8}, formT a d -> formT b d' -> stopsV x -> stopsV y -> tL (textT a) ++ x = tL (textT b) ++ y -> a = b /\ x = y
 | .mk k n s ks l, .mk k' n' s' ks' l', d, d', x, y, ha, hb, hx, hy, h => by
   obtain ⟨c, r, e1, e2, _, _⟩ := textT_first ha
   obtain ⟨c', r', e1', e2', _, _⟩ := textT_first hb
   have hkk : k = k' := by
    have h' := h
    rw [e1, e1'] at h'
    simp only [List.cons_append, List.cons.injEq] at h'
    rw [h'.1] at e2
    exact e2.symm.trans e2'
   subst hkk
   have hk := kind_le ha
   simp only [formT] at ha hb
   obtain ⟨_, a2, a3, a4, a5, _, _, _, _, a10, a11, a12⟩ := ha
   obtain ⟨_, b2, b3, b4, b5, _, _, _, _, b10, b11, b12⟩ := hb
   rw [tT_eq, tT_eq] at h
   by_cases c3 : k = 3
   ·subst c3
    simp only [show ¬ ((3 : Int) = 0) by omega, show ¬ ((3 : Int) = 1) by omega, show ¬ ((3 : Int) = 2) by omega, if_false, if_true] at h
    obtain ⟨h1, h2⟩ := span_inj (itoa_chr n) (itoa_chr n') (stops_digit hx) (stops_digit hy) h
    have := itoa_inj h1
    have q3 := a3.resolve_left (by omega); have q4 := a4.resolve_left (by omega); have q5 := a5.resolve_left (by omega)
    have p3 := b3.resolve_left (by omega); have p4 := b4.resolve_left (by omega); have p5 := b5.resolve_left (by omega)
    subst this q3 q4 q5 p3 p4 p5
    exact ⟨rfl, h2⟩
   have q2 := a2.resolve_left c3
   have p2 := b2.resolve_left c3
   subst q2 p2
   by_cases c4 : k = 4
   ·subst c4
    simp only [show ¬ ((4 : Int) = 0) by omega, show ¬ ((4 : Int) = 1) by omega, show ¬ ((4 : Int) = 2) by omega, show ¬ ((4 : Int) = 3) by omega, if_false, if_true, List.cons_append, List.cons.injEq, true_and, List.append_assoc, List.nil_append] at h
    obtain ⟨h1, h2⟩ := span_inj (P := letter) (letter_of a10) (letter_of b10) (stop_letter 39 (by decide) _) (stop_letter 39 (by decide) _) h
    have := tL_inj h1
    have q4 := a4.resolve_left (by omega); have q5 := a5.resolve_left (by omega)
    have p4 := b4.resolve_left (by omega); have p5 := b5.resolve_left (by omega)
    subst this q4 q5 p4 p5
    exact ⟨rfl, (List.cons.inj h2).2⟩
   have q3 := a3.resolve_left c4
   have p3 := b3.resolve_left c4
   subst q3 p3
   by_cases c6 : k = 6
   ·subst c6
    simp only [show ¬ ((6 : Int) = 0) by omega, show ¬ ((6 : Int) = 1) by omega, show ¬ ((6 : Int) = 2) by omega, show ¬ ((6 : Int) = 3) by omega, show ¬ ((6 : Int) = 4) by omega, if_false, if_true, List.cons_append, List.cons.injEq, true_and, List.append_assoc, List.nil_append] at h
    obtain ⟨g1, g2⟩ := a11 rfl
    obtain ⟨g1', g2'⟩ := b11 rfl
    have oa : ∀ s ∈ ks, okS s := fun s hs => by
     obtain ⟨i, hi⟩ := List.getElem?_of_mem hs
     exact okKeys_at g2 hi
    have ob : ∀ s ∈ ks', okS s := fun s hs => by
     obtain ⟨i, hi⟩ := List.getElem?_of_mem hs
     exact okKeys_at g2' hi
    have key : TM ks l ++ 125 :: x = TM ks' l' ++ 125 :: y := by
     cases l with
     | nil =>
       cases l' with
       | nil => exact h
       | cons t' l' =>
         simp only [TMj, List.nil_append, List.append_assoc, List.cons_append] at h
         cases ks' with
         | nil => simp at g1'
         | cons z ks' => exact absurd h.symm (letters_ne (ob z (by simp)) _ 125 (by decide) (by decide) _)
     | cons t l =>
       cases l' with
       | nil =>
         simp only [TMj, List.nil_append, List.append_assoc, List.cons_append] at h
         cases ks with
         | nil => simp at g1
         | cons z ks => exact absurd h (letters_ne (oa z (by simp)) _ 125 (by decide) (by decide) _)
       | cons t' l' =>
         simp only [TM, TMj, List.cons_append, List.append_assoc] at h ⊢
         rw [h]
    obtain ⟨h1, h2, h3⟩ := mapT_inj l g1 g1' oa ob a12 b12 key
    subst h1 h2
    exact ⟨rfl, h3⟩
   have q4 := a4.resolve_left c6
   have p4 := b4.resolve_left c6
   subst q4 p4
   by_cases c5 : k = 5
   ·subst c5
    simp only [show ¬ ((5 : Int) = 0) by omega, show ¬ ((5 : Int) = 1) by omega, show ¬ ((5 : Int) = 2) by omega, show ¬ ((5 : Int) = 3) by omega, show ¬ ((5 : Int) = 4) by omega, show ¬ ((5 : Int) = 6) by omega, if_false, List.cons_append, List.cons.injEq, true_and, List.append_assoc, List.nil_append] at h
    have key : TR l ++ 93 :: x = TR l' ++ 93 :: y := by
     cases l with
     | nil =>
       cases l' with
       | nil => exact h
       | cons t' l' =>
         simp only [formL] at b12
         obtain ⟨c, r, e, _, hne, _⟩ := textT_first b12.1
         simp only [TRj, List.nil_append, List.append_assoc, e, List.cons_append, List.cons.injEq] at h
         exact absurd h.1.symm hne
     | cons t l =>
       cases l' with
       | nil =>
         simp only [formL] at a12
         obtain ⟨c, r, e, _, hne, _⟩ := textT_first a12.1
         simp only [TRj, List.nil_append, List.append_assoc, e, List.cons_append, List.cons.injEq] at h
         exact absurd h.1 hne
       | cons t' l' =>
         simp only [TR, TRj, List.cons_append, List.append_assoc] at h ⊢
         rw [h]
    obtain ⟨h1, h2⟩ := rowT_inj l a12 b12 key
    subst h1
    exact ⟨rfl, h2⟩
   have q5 := a5.resolve_left (by omega)
   have p5 := b5.resolve_left (by omega)
   subst q5 p5
   refine ⟨rfl, ?_⟩
   exact List.append_cancel_left h
theorem rowT_inj : ∀ (l : List T) {l' : List T} {d d' : Int} {x y : List UInt8}, formL l d -> formL l' d' -> TR l ++ 93 :: x = TR l' ++ 93 :: y -> l = l' /\ x = y
 | [], [], _, _, _, _, _, _, h => ⟨rfl, by simpa [TR] using h⟩
 | [], _ :: _, _, _, _, _, _, _, h => by simp [TR] at h
 | _ :: _, [], _, _, _, _, _, _, h => by simp [TR] at h
 | t :: l, t' :: l', d, d', x, y, ha, hb, h => by
   simp only [formL] at ha hb
   simp only [TR, List.cons_append, List.cons.injEq, true_and, List.append_assoc] at h
   obtain ⟨rfl, h1⟩ := textT_inj t ha.1 hb.1 (TR_stop l x) (TR_stop l' y) h
   obtain ⟨rfl, h2⟩ := rowT_inj l ha.2 hb.2 h1
   exact ⟨rfl, h2⟩
theorem mapT_inj : ∀ (l : List T) {l' : List T} {ks ks' : List ByteArray} {d d' : Int} {x y : List UInt8}, ks.length = l.length -> ks'.length = l'.length -> (∀ s ∈ ks, okS s) -> (∀ s ∈ ks', okS s) -> formL l d -> formL l' d' -> TM ks l ++ 125 :: x = TM ks' l' ++ 125 :: y -> ks = ks' /\ l = l' /\ x = y
 | [], [], ks, ks', _, _, _, _, hl, hl', _, _, _, _, h => by
   rw [List.eq_nil_of_length_eq_zero hl, List.eq_nil_of_length_eq_zero hl']
   exact ⟨rfl, rfl, by simpa [TM] using h⟩
 | [], _ :: _, _, _, _, _, _, _, _, _, _, _, _, _, h => by simp [TM] at h
 | _ :: _, [], _, _, _, _, _, _, _, _, _, _, _, _, h => by simp [TM] at h
 | t :: l, t' :: l', [], _, _, _, _, _, hl, _, _, _, _, _, _ => by simp at hl
 | t :: l, t' :: l', _ :: _, [], _, _, _, _, _, hl, _, _, _, _, _ => by simp at hl
 | t :: l, t' :: l', z :: ks, z' :: ks', d, d', x, y, hl, hl', oa, ob, ha, hb, h => by
   simp only [formL] at ha hb
   simp only [TM, List.headD_cons, List.tail_cons, List.cons_append, List.cons.injEq, true_and, List.append_assoc] at h
   obtain ⟨h1, h2⟩ := span_inj (P := letter) (letter_of (oa z (by simp))) (letter_of (ob z' (by simp))) (stop_letter 58 (by decide) _) (stop_letter 58 (by decide) _) h
   have h2 := (List.cons.inj h2).2
   obtain ⟨rfl, h3⟩ := textT_inj t ha.1 hb.1 (TM_stop ks l x) (TM_stop ks' l' y) h2
   obtain ⟨rfl, rfl, h4⟩ := mapT_inj l (by simpa using hl) (by simpa using hl') (fun s hs => oa s (List.mem_cons_of_mem _ hs)) (fun s hs => ob s (List.mem_cons_of_mem _ hs)) ha.2 hb.2 h3
   rw [tL_inj h1]
   exact ⟨rfl, rfl, h4⟩
end
end Go.Proofs.Pw
namespace Go.Proofs.Pw
def skp (l : List UInt8) (a : Nat) (p : List UInt8) : Bool := p.isPrefixOf (l.drop a)
def upTo (l : List UInt8) (e : List UInt8) (a : Nat) : Nat := a + ((l.drop a).takeWhile fun c => !e.contains c).length
def sub (l : List UInt8) (a b : Nat) : List UInt8 := (l.drop a).take (b - a)
def atoiN (l : List UInt8) : Int := match Lib.atoiAll l with
 | .ok v => v
 | .range => Lib.atoiSat l
 | _ => 0
def clo (l : List UInt8) (a : Nat) (p : List UInt8) : Nat := if skp l a p then a + p.length else a
def rdL (f : Nat -> T × Nat) (l : List UInt8) : Nat -> Nat -> List T × Nat
 | 0, a => ([], a)
 | c + 1, a => if skp l (f a).2 [44] then ((f a).1 :: (rdL f l c ((f a).2 + 1)).1, (rdL f l c ((f a).2 + 1)).2) else ([(f a).1], (f a).2)
def rdM (f : Nat -> T × Nat) (l : List UInt8) : Nat -> Nat -> List ByteArray × List T × Nat
 | 0, a => ([], [], a)
 | c + 1, a =>
   let b := upTo l [58] a
   let k := bL (sub l a b)
   let r := f (clo l b [58])
   if skp l r.2 [44] then (k :: (rdM f l c (r.2 + 1)).1, r.1 :: (rdM f l c (r.2 + 1)).2.1, (rdM f l c (r.2 + 1)).2.2) else ([k], [r.1], r.2)
def rdV : Nat -> List UInt8 -> Nat -> T × Nat
 | 0, _, a => (T.zero, a)
 | d + 1, l, a =>
   if skp l a [110, 117, 108, 108] then (.mk 0 0 ⟨#[]⟩ [] [], a + 4)
   else if skp l a [102, 97, 108, 115, 101] then (.mk 1 0 ⟨#[]⟩ [] [], a + 5)
   else if skp l a [116, 114, 117, 101] then (.mk 2 0 ⟨#[]⟩ [] [], a + 4)
   else if skp l a [39] then (.mk 4 0 (bL (sub l (a + 1) (upTo l [39] (a + 1)))) [] [], clo l (upTo l [39] (a + 1)) [39])
   else if skp l a [91] then
    if skp l (a + 1) [93] then (.mk 5 0 ⟨#[]⟩ [] [], a + 2)
    else (.mk 5 0 ⟨#[]⟩ [] (rdL (rdV d l) l 61 (a + 1)).1, clo l (rdL (rdV d l) l 61 (a + 1)).2 [93])
   else if skp l a [123] then
    if skp l (a + 1) [125] then (.mk 6 0 ⟨#[]⟩ [] [], a + 2)
    else (.mk 6 0 ⟨#[]⟩ (rdM (rdV d l) l 61 (a + 1)).1 (rdM (rdV d l) l 61 (a + 1)).2.1, clo l (rdM (rdV d l) l 61 (a + 1)).2.2 [125])
   else (.mk 3 (atoiN (sub l a (upTo l [44, 93, 125] a))) ⟨#[]⟩ [] [], upTo l [44, 93, 125] a)
theorem skp_len {l p : List UInt8} {a : Nat} (h : skp l a p = true) (hp : p ≠ []) : a + p.length <= l.length := by
 have := (List.isPrefixOf_iff_prefix.1 h).length_le
 rw [List.length_drop] at this
 have : 0 < p.length := List.length_pos_iff.2 hp
 omega
theorem takeWhile_le {α : Type} (p : α -> Bool) (l : List α) : (l.takeWhile p).length <= l.length := (List.takeWhile_prefix p).length_le
theorem upTo_le {l e : List UInt8} {a : Nat} (h : a <= l.length) : a <= upTo l e a /\ upTo l e a <= l.length := by
 unfold upTo
 have := takeWhile_le (fun c => !e.contains c) (l.drop a)
 rw [List.length_drop] at this
 omega
theorem clo_le {l p : List UInt8} {a : Nat} (h : a <= l.length) (hp : p ≠ []) : a <= clo l a p /\ clo l a p <= l.length := by
 unfold clo
 split
 ·rename_i c
  have := skp_len c hp
  omega
 ·omega
theorem sub_len {l : List UInt8} {a b : Nat} (h : b <= l.length) : (sub l a b).length <= l.length := by
 unfold sub
 rw [List.length_take, List.length_drop]; omega
theorem atoiN_i64 (l : List UInt8) : i64 (atoiN l) := by
 unfold atoiN i64
 split
 ·rename_i v h
  exact Lib.atoiAll_bounds h
 ·exact Lib.atoiSat_bounds l
 ·omega
def rdOk (l : List UInt8) (a : Nat) (r : T × Nat) : Prop := a <= r.2 /\ r.2 <= l.length /\ sizeT r.1 + a <= 1 + (r.2 : Int) /\ r.1.fit (l.length + 61)
theorem rdL_ok {f : Nat -> T × Nat} {l : List UInt8} (hf : ∀ a, a <= l.length -> rdOk l a (f a)) : ∀ (c a : Nat), a <= l.length -> a <= (rdL f l c a).2 /\ (rdL f l c a).2 <= l.length /\ sizeL (rdL f l c a).1 + a <= 1 + ((rdL f l c a).2 : Int) /\ (rdL f l c a).1.length <= c /\ fitL (l.length + 61) (rdL f l c a).1
 | 0, a, h => by simp only [rdL, sizeL]; exact ⟨Nat.le_refl _, h, by omega, by simp, trivial⟩
 | c + 1, a, h => by
   obtain ⟨h1, h2, h3, h4⟩ := hf a h
   simp only [rdL]
   split
   ·rename_i hs
    have hs' := skp_len hs (by simp)
    simp only [List.length_cons, List.length_nil] at hs'
    obtain ⟨g1, g2, g3, g4, g5⟩ := rdL_ok hf c ((f a).2 + 1) (by omega)
    simp only [sizeL, List.length_cons]
    exact ⟨by omega, g2, by omega, by omega, h4, g5⟩
   ·simp only [sizeL, List.length_cons, List.length_nil]
    exact ⟨h1, h2, by omega, by omega, h4, trivial⟩
theorem rdM_ok {f : Nat -> T × Nat} {l : List UInt8} (hf : ∀ a, a <= l.length -> rdOk l a (f a)) : ∀ (c a : Nat), a <= l.length -> a <= (rdM f l c a).2.2 /\ (rdM f l c a).2.2 <= l.length /\ sizeL (rdM f l c a).2.1 + a <= 1 + ((rdM f l c a).2.2 : Int) /\ (rdM f l c a).2.1.length <= c /\ (rdM f l c a).1.length <= c /\ fitL (l.length + 61) (rdM f l c a).2.1 /\ ∀ s ∈ (rdM f l c a).1, s.size <= l.length
 | 0, a, h => by simp only [rdM, sizeL]; exact ⟨Nat.le_refl _, h, by omega, by simp, by simp, trivial, by simp⟩
 | c + 1, a, h => by
   obtain ⟨u1, u2⟩ := upTo_le (e := [58]) h
   obtain ⟨w1, w2⟩ := clo_le (p := [58]) u2 (by simp)
   obtain ⟨h1, h2, h3, h4⟩ := hf _ w2
   have hk : (bL (sub l a (upTo l [58] a))).size <= l.length := by rw [bL_size]; exact sub_len u2
   simp only [rdM]
   split
   ·rename_i hs
    have hs' := skp_len hs (by simp)
    simp only [List.length_cons, List.length_nil] at hs'
    obtain ⟨g1, g2, g3, g4, g5, g6, g7⟩ := rdM_ok hf c ((f (clo l (upTo l [58] a) [58])).2 + 1) (by omega)
    simp only [sizeL, List.length_cons]
    refine ⟨by omega, g2, by omega, by omega, by omega, ⟨h4, g6⟩, fun s hs => ?_⟩
    rcases List.mem_cons.1 hs with rfl | hs
    ·exact hk
    ·exact g7 s hs
   ·simp only [sizeL, List.length_cons, List.length_nil]
    refine ⟨by omega, h2, by omega, by omega, by omega, ⟨h4, trivial⟩, fun s hs => ?_⟩
    rw [List.mem_singleton] at hs
    rw [hs]; exact hk
theorem leaf_fit {k n : Int} {s : ByteArray} {B : Int} (hk : i64 k) (hn : i64 n) (hs : (s.size : Int) <= B) (hB : 0 <= B) : (T.mk k n s [] []).fit B := by
 simp only [T.fit, lenB, strsFit]
 exact ⟨hk, hn, hs, ⟨by simpa using hB, by simp⟩, by simpa using hB, trivial⟩
theorem rdV_ok : ∀ (d : Nat) (l : List UInt8) (a : Nat), a <= l.length -> rdOk l a (rdV d l a)
 | 0, l, a, h => by
   unfold rdV
   exact ⟨Nat.le_refl _, h, by show sizeT T.zero + _ <= _; simp [T.zero, sizeT, sizeL], leaf_fit (by unfold i64; omega) (by unfold i64; omega) (by show ((0 : Nat) : Int) <= _; omega) (by omega)⟩
 | d + 1, l, a, h => by
   have hz : (((⟨#[]⟩ : ByteArray).size : Nat) : Int) = 0 := rfl
   have e1 : ∀ k : Int, ∀ n s, sizeT (.mk k n s [] []) = 1 := fun k n s => by simp [sizeT, sizeL]
   unfold rdV
   split
   ·rename_i c
    have c := skp_len c (by simp)
    simp only [List.length_cons, List.length_nil] at c
    exact ⟨by simp only; omega, by simp only; omega, by rw [e1]; simp only; omega, leaf_fit (by unfold i64; omega) (by unfold i64; omega) (by rw [hz]; omega) (by omega)⟩
   split
   ·rename_i c
    have c := skp_len c (by simp)
    simp only [List.length_cons, List.length_nil] at c
    exact ⟨by simp only; omega, by simp only; omega, by rw [e1]; simp only; omega, leaf_fit (by unfold i64; omega) (by unfold i64; omega) (by rw [hz]; omega) (by omega)⟩
   split
   ·rename_i c
    have c := skp_len c (by simp)
    simp only [List.length_cons, List.length_nil] at c
    exact ⟨by simp only; omega, by simp only; omega, by rw [e1]; simp only; omega, leaf_fit (by unfold i64; omega) (by unfold i64; omega) (by rw [hz]; omega) (by omega)⟩
   split
   ·rename_i c
    have c := skp_len c (by simp)
    simp only [List.length_cons, List.length_nil] at c
    obtain ⟨u1, u2⟩ := upTo_le (l := l) (e := [39]) (a := a + 1) (by omega)
    obtain ⟨w1, w2⟩ := clo_le (p := [39]) u2 (by simp)
    have hk : (bL (sub l (a + 1) (upTo l [39] (a + 1)))).size <= l.length := by rw [bL_size]; exact sub_len u2
    exact ⟨by simp only; omega, w2, by rw [e1]; simp only; omega, leaf_fit (by unfold i64; omega) (by unfold i64; omega) (by omega) (by omega)⟩
   split
   ·rename_i c
    have c := skp_len c (by simp)
    simp only [List.length_cons, List.length_nil] at c
    split
    ·rename_i c'
     have c' := skp_len c' (by simp)
     simp only [List.length_cons, List.length_nil] at c'
     exact ⟨by simp only; omega, by simp only; omega, by rw [e1]; simp only; omega, leaf_fit (by unfold i64; omega) (by unfold i64; omega) (by rw [hz]; omega) (by omega)⟩
    ·obtain ⟨g1, g2, g3, g4, g5⟩ := rdL_ok (fun a h => rdV_ok d l a h) 61 (a + 1) (by omega)
     obtain ⟨w1, w2⟩ := clo_le (p := [93]) g2 (by simp)
     refine ⟨by simp only; omega, w2, by simp only [sizeT]; omega, ?_⟩
     simp only [T.fit, lenB, strsFit]
     exact ⟨by unfold i64; omega, by unfold i64; omega, by rw [hz]; omega, ⟨by simp; omega, by simp⟩, by omega, g5⟩
   split
   ·rename_i c
    have c := skp_len c (by simp)
    simp only [List.length_cons, List.length_nil] at c
    split
    ·rename_i c'
     have c' := skp_len c' (by simp)
     simp only [List.length_cons, List.length_nil] at c'
     exact ⟨by simp only; omega, by simp only; omega, by rw [e1]; simp only; omega, leaf_fit (by unfold i64; omega) (by unfold i64; omega) (by rw [hz]; omega) (by omega)⟩
    ·obtain ⟨g1, g2, g3, g4, g5, g6, g7⟩ := rdM_ok (fun a h => rdV_ok d l a h) 61 (a + 1) (by omega)
     obtain ⟨w1, w2⟩ := clo_le (p := [125]) g2 (by simp)
     refine ⟨by simp only; omega, w2, by simp only [sizeT]; omega, ?_⟩
     simp only [T.fit, lenB, strsFit]
     exact ⟨by unfold i64; omega, by unfold i64; omega, by rw [hz]; omega, ⟨by omega, fun s hs => by have := g7 s hs; omega⟩, by omega, g6⟩
   ·obtain ⟨u1, u2⟩ := upTo_le (l := l) (e := [44, 93, 125]) h
    exact ⟨u1, u2, by rw [e1]; simp only; omega, leaf_fit (by unfold i64; omega) (atoiN_i64 _) (by rw [hz]; omega) (by omega)⟩
end Go.Proofs.Pw
namespace Go.Proofs.Pw
def stopsR : List UInt8 -> Prop
 | [] => True
 | b :: _ => b = 44 \/ b = 125 \/ b = 93
theorem drop_more {l w x : List UInt8} {a : Nat} (h : l.drop a = w ++ x) : l.drop (a + w.length) = x := by
 rw [<- List.drop_drop, h, List.drop_left']; rfl
theorem skp_yes {l p r : List UInt8} {a : Nat} (h : l.drop a = p ++ r) : skp l a p = true := by
 unfold skp
 rw [h, List.isPrefixOf_iff_prefix]
 exact List.prefix_append p r
theorem skp_no {l r q : List UInt8} {a : Nat} {b c : UInt8} (h : l.drop a = c :: r) (hne : b ≠ c) : skp l a (b :: q) = false := by
 unfold skp
 rw [h]
 simp [List.isPrefixOf, hne]
theorem clo_yes {l p r : List UInt8} {a : Nat} (h : l.drop a = p ++ r) : clo l a p = a + p.length := by
 unfold clo; rw [skp_yes h, if_pos rfl]
theorem upTo_eq {l w x e : List UInt8} {a : Nat} (h : l.drop a = w ++ x) (hw : ∀ c ∈ w, e.contains c = false) (hx : ∀ b r, x = b :: r -> e.contains b = true) : upTo l e a = a + w.length /\ sub l a (upTo l e a) = w := by
 have key : (w ++ x).takeWhile (fun c => !e.contains c) = w := by
  rw [List.takeWhile_append_of_pos (fun c hc => by simp only [hw c hc, Bool.not_false])]
  cases x with
  | nil => simp
  | cons b r =>
    have h1 := hx b r rfl
    rw [List.takeWhile_cons_of_neg (by rw [h1]; simp), List.append_nil]
 have e1 : upTo l e a = a + w.length := by unfold upTo; rw [h, key]
 refine ⟨e1, ?_⟩
 unfold sub
 rw [e1, h, Nat.add_sub_cancel_left, List.take_left']
 rfl
theorem parse_snoc {c : UInt8} : ∀ (l : List UInt8) (acc v : Nat), Lib.parseUint10 acc l = .ok v -> 48 <= c.toNat /\ c.toNat <= 57 -> v < 1844674407370955161 -> Lib.parseUint10 acc (l ++ [c]) = .ok (v * 10 + (c.toNat - 48))
 | [], acc, v, h, hc, hv => by
   simp only [Lib.parseUint10] at h
   injection h with h
   subst h
   simp only [List.nil_append, Lib.parseUint10]
   rw [if_pos hc, if_neg (by omega), if_neg (by omega)]
 | b :: l, acc, v, h, hc, hv => by
   simp only [List.cons_append, Lib.parseUint10] at h ⊢
   split at h
   ·split at h
    ·cases h
    ·split at h
     ·cases h
     ·rename_i h1 h2 h3
      rw [if_pos h1, if_neg h2, if_neg h3]
      exact parse_snoc l _ v h hc hv
   ·cases h
theorem parse_dec (u : Nat) : u < 1000000000000 -> Lib.parseUint10 0 (Lib.decDigits u) = .ok u := by
 induction u using Nat.strongRecOn with
 | _ u ih =>
   intro hu
   by_cases h : u < 10
   ·have hd := dig_nat h
    rw [Lib.decDigits, dif_pos h]
    simp only [Lib.parseUint10]
    rw [if_pos (by omega), if_neg (by omega), if_neg (by omega)]
    congr 1; omega
   ·have hd := dig_nat (show u % 10 < 10 by omega)
    rw [Lib.decDigits, dif_neg h, parse_snoc _ _ _ (ih (u / 10) (by omega) (by omega)) (by omega) (by omega)]
    congr 1; omega
theorem mag_dec {u : Nat} (h : u < 1000000000000) : Lib.parseMag (Lib.decDigits u) = .ok u := by
 unfold Lib.parseMag
 rw [if_neg (dec_ne u), parse_dec u h]
theorem atoiAll_itoa {n : Int} (h0 : -1000000 <= n) (h1 : n <= 1000000) : Lib.atoiAll (Lib.itoa n) = .ok n := by
 unfold Lib.itoa
 split
 ·rename_i hn
  rw [Lib.atoiAll_minus, mag_dec (by omega)]
  simp only [Lib.signed]
  rw [if_neg (by omega)]
  congr 1; omega
 ·obtain ⟨c, r, e⟩ := List.exists_cons_of_ne_nil (dec_ne n.toNat)
  have hc := dec_dig n.toNat c (by rw [e]; simp)
  rw [e, Lib.atoiAll_plain c r (by omega) (by omega), <- e, mag_dec (by omega)]
  simp only [Lib.signless]
  rw [if_neg (by omega)]
  congr 1; omega
theorem atoiN_itoa {n : Int} (h0 : -1000000 <= n) (h1 : n <= 1000000) : atoiN (Lib.itoa n) = n := by
 unfold atoiN
 rw [atoiAll_itoa h0 h1]
theorem TR_stopR (l : List T) (x : List UInt8) : stopsR (TR l ++ 93 :: x) := by
 cases l with
 | nil => exact .inr (.inr rfl)
 | cons t l => exact .inl rfl
theorem TM_stopR (ks : List ByteArray) (l : List T) (x : List UInt8) : stopsR (TM ks l ++ 125 :: x) := by
 cases l with
 | nil => exact .inr (.inl rfl)
 | cons t l => exact .inl rfl
theorem bL_tL (s : ByteArray) : bL (tL s) = s := bL_data s
theorem ltr_ne {s : ByteArray} (h : okS s) {e : UInt8} (he : e.toNat < 97) : ∀ c ∈ tL s, [e].contains c = false := fun c hc => by
 have := letter_of h c hc
 unfold letter at this
 simp only [List.contains_cons, List.contains_nil, Bool.or_false, beq_eq_false_iff_ne, ne_eq]
 intro e'; subst e'; omega
theorem sizeT_posR (t : T) : 1 <= sizeT t := by
 obtain ⟨k, n, s, ks, l⟩ := t
 have := len_sizeL l
 simp only [sizeT]; omega
mutual
theorem rdV_text : ∀ (t : T) {d : Nat} {l : List UInt8} {a : Nat} {x : List UInt8}, formT t d -> sizeT t <= 60 -> l.drop a = tL (textT t) ++ x -> stopsR x -> rdV d l a = (t, a + (tL (textT t)).length)
 | .mk k n s ks ts, 0, l, a, x, hf, _, _, _ => by simp only [formT] at hf; have := hf.1; omega
 | .mk k n s ks ts, d + 1, l, a, x, hf, hz, h, hx => by
   have hk := kind_le hf
   simp only [formT] at hf
   obtain ⟨_, a2, a3, a4, a5, _, _, a8, a9, a10, a11, a12⟩ := hf
   have ed : ((d + 1 : Nat) : Int) - 1 = (d : Int) := by omega
   rw [ed] at a12
   simp only [sizeT] at hz
   have hlen := len_sizeL ts
   rw [tT_eq] at h ⊢
   by_cases c0 : k = 0
   ·subst c0
    have q2 := a2.resolve_left (by omega); have q3 := a3.resolve_left (by omega); have q4 := a4.resolve_left (by omega); have q5 := a5.resolve_left (by omega)
    subst q2 q3 q4 q5
    rw [if_pos rfl] at h ⊢
    unfold rdV
    rw [if_pos (skp_yes h)]; rfl
   rw [if_neg c0] at h ⊢
   by_cases c1 : k = 1
   ·subst c1
    have q2 := a2.resolve_left (by omega); have q3 := a3.resolve_left (by omega); have q4 := a4.resolve_left (by omega); have q5 := a5.resolve_left (by omega)
    subst q2 q3 q4 q5
    rw [if_pos rfl] at h ⊢
    unfold rdV
    rw [skp_no (b := 110) h (by decide), if_neg (by simp), if_pos (skp_yes h)]; rfl
   rw [if_neg c1] at h ⊢
   by_cases c2 : k = 2
   ·subst c2
    have q2 := a2.resolve_left (by omega); have q3 := a3.resolve_left (by omega); have q4 := a4.resolve_left (by omega); have q5 := a5.resolve_left (by omega)
    subst q2 q3 q4 q5
    rw [if_pos rfl] at h ⊢
    unfold rdV
    rw [skp_no (b := 110) h (by decide), if_neg (by simp), skp_no (b := 102) h (by decide), if_neg (by simp), if_pos (skp_yes h)]; rfl
   rw [if_neg c2] at h ⊢
   by_cases c3 : k = 3
   ·subst c3
    have q3 := a3.resolve_left (by omega); have q4 := a4.resolve_left (by omega); have q5 := a5.resolve_left (by omega)
    subst q3 q4 q5
    rw [if_pos rfl] at h ⊢
    obtain ⟨c, r, e⟩ := itoa_ne n
    have hc := itoa_chr n c (by rw [e]; simp)
    have hne : ∀ m : UInt8, m.toNat ≠ 45 -> ¬ (48 <= m.toNat /\ m.toNat <= 57) -> m ≠ c := fun m h1 h2 e => by rw [<- e] at hc; exact hc.elim h1 h2
    have h' : l.drop a = c :: (r ++ x) := by rw [h, e]; rfl
    obtain ⟨u1, u2⟩ := upTo_eq (e := [44, 93, 125]) h (fun c hc => by
     have := itoa_chr n c hc
     simp only [List.contains_cons, List.contains_nil, Bool.or_false, Bool.or_eq_false_iff, beq_eq_false_iff_ne, ne_eq]
     refine ⟨?_, ?_, ?_⟩ <;> (intro e'; subst e'; revert this; decide)) (fun b r e => by
     subst e
     rcases hx with rfl | rfl | rfl <;> rfl)
    unfold rdV
    rw [skp_no (b := 110) h' (hne _ (by decide) (by decide)), if_neg (by simp), skp_no (b := 102) h' (hne _ (by decide) (by decide)), if_neg (by simp), skp_no (b := 116) h' (hne _ (by decide) (by decide)), if_neg (by simp),
     skp_no (b := 39) h' (hne _ (by decide) (by decide)), if_neg (by simp), skp_no (b := 91) h' (hne _ (by decide) (by decide)), if_neg (by simp), skp_no (b := 123) h' (hne _ (by decide) (by decide)), if_neg (by simp), u2, u1, atoiN_itoa a8 a9]
   rw [if_neg c3] at h ⊢
   have q2 := a2.resolve_left c3
   subst q2
   by_cases c4 : k = 4
   ·subst c4
    have q4 := a4.resolve_left (by omega); have q5 := a5.resolve_left (by omega)
    subst q4 q5
    rw [if_pos rfl] at h ⊢
    have h' : l.drop a = 39 :: (tL s ++ 39 :: x) := by rw [h]; simp
    have h2 : l.drop (a + 1) = tL s ++ 39 :: x := drop_more (w := [39]) h'
    obtain ⟨u1, u2⟩ := upTo_eq (e := [39]) h2 (ltr_ne a10 (by decide)) (fun b r e => by cases e; rfl)
    have h3 := drop_more h2
    rw [<- u1] at h3
    unfold rdV
    rw [skp_no (b := 110) h' (by decide), if_neg (by simp), skp_no (b := 102) h' (by decide), if_neg (by simp), skp_no (b := 116) h' (by decide), if_neg (by simp),
     if_pos (skp_yes (p := [39]) h'), u2, clo_yes (p := [39]) h3, u1, bL_tL]
    simp only [List.length_cons, List.length_append, List.length_nil, Prod.mk.injEq, true_and]
    omega
   rw [if_neg c4] at h ⊢
   have q3 := a3.resolve_left c4
   subst q3
   by_cases c6 : k = 6
   ·subst c6
    rw [if_pos rfl] at h ⊢
    obtain ⟨g1, g2⟩ := a11 rfl
    have ok : ∀ s ∈ ks, okS s := fun s hs => by
     obtain ⟨i, hi⟩ := List.getElem?_of_mem hs
     exact okKeys_at g2 hi
    have h' : l.drop a = 123 :: (TMj ks ts ++ 125 :: x) := by rw [h]; simp
    have h2 : l.drop (a + 1) = TMj ks ts ++ 125 :: x := drop_more (w := [123]) h'
    unfold rdV
    rw [skp_no (b := 110) h' (by decide), if_neg (by simp), skp_no (b := 102) h' (by decide), if_neg (by simp), skp_no (b := 116) h' (by decide), if_neg (by simp),
     skp_no (b := 39) h' (by decide), if_neg (by simp), skp_no (b := 91) h' (by decide), if_neg (by simp), if_pos (skp_yes (p := [123]) h')]
    cases ts with
    | nil =>
      rw [List.length_nil] at g1
      have := List.eq_nil_of_length_eq_zero g1
      subst this
      rw [if_pos (skp_yes (p := [125]) h2)]
      rfl
    | cons t ts =>
      cases ks with
      | nil => simp at g1
      | cons z ks =>
        have hno : skp l (a + 1) [125] = false := by
         cases hz' : tL z with
         | nil =>
           have : l.drop (a + 1) = 58 :: (tL (textT t) ++ TM ks ts ++ 125 :: x) := by rw [h2]; simp [TMj, hz']
           exact skp_no this (by decide)
         | cons b r =>
           have : l.drop (a + 1) = b :: (r ++ 58 :: (tL (textT t) ++ TM ks ts ++ 125 :: x)) := by rw [h2]; simp [TMj, hz']
           refine skp_no this fun e => ?_
           have := letter_of (ok z (by simp)) b (by rw [hz']; simp)
           rw [<- e] at this
           exact not_letter (by decide) this
        have hr := rdM_text (t :: ts) (c := 61) (ks := z :: ks) (by simp) (by simp only [List.length_cons] at hlen ⊢; omega) g1 ok a12 (by omega) h2
        have h3 := drop_more h2
        rw [hno, if_neg (by simp), hr, clo_yes (p := [125]) h3]
        simp only [List.length_cons, List.length_append, List.length_nil, Prod.mk.injEq, true_and]
        omega
   rw [if_neg c6] at h ⊢
   have q4 := a4.resolve_left c6
   subst q4
   have c5 : k = 5 := by
    have h0 := hk.1
    have h6 := hk.2
    omega
   subst c5
   have h' : l.drop a = 91 :: (TRj ts ++ 93 :: x) := by rw [h]; simp
   have h2 : l.drop (a + 1) = TRj ts ++ 93 :: x := drop_more (w := [91]) h'
   unfold rdV
   rw [skp_no (b := 110) h' (by decide), if_neg (by simp), skp_no (b := 102) h' (by decide), if_neg (by simp), skp_no (b := 116) h' (by decide), if_neg (by simp),
    skp_no (b := 39) h' (by decide), if_neg (by simp), if_pos (skp_yes (p := [91]) h')]
   cases ts with
   | nil => rw [if_pos (skp_yes (p := [93]) h2)]; rfl
   | cons t ts =>
     have hno : skp l (a + 1) [93] = false := by
      have hft := a12
      simp only [formL] at hft
      obtain ⟨c, r, e, _, hne, _⟩ := textT_first hft.1
      have : l.drop (a + 1) = c :: (r ++ TR ts ++ 93 :: x) := by rw [h2]; simp [TRj, e]
      exact skp_no this (fun e => hne e.symm)
     have hr := rdL_text (t :: ts) (c := 61) (by simp) (by simp only [List.length_cons] at hlen ⊢; omega) a12 (by omega) h2
     have h3 := drop_more h2
     rw [hno, if_neg (by simp), hr, clo_yes (p := [93]) h3]
     simp only [List.length_cons, List.length_append, List.length_nil, Prod.mk.injEq, true_and]
     omega
theorem rdL_text : ∀ (ts : List T) {d : Nat} {l : List UInt8} {c a : Nat} {x : List UInt8}, ts ≠ [] -> ts.length <= c -> formL ts d -> sizeL ts <= 60 -> l.drop a = TRj ts ++ 93 :: x -> rdL (rdV d l) l c a = (ts, a + (TRj ts).length)
 | [], _, _, _, _, _, h, _, _, _, _ => absurd rfl h
 | t :: ts, d, l, 0, a, x, _, hc, _, _, _ => by simp at hc
 | t :: ts, d, l, c + 1, a, x, _, hc, hf, hz, h => by
   simp only [formL] at hf
   simp only [sizeL] at hz
   have hp := sizeT_posR t
   have hl := len_sizeL ts
   simp only [TRj, List.append_assoc] at h
   have h1 := rdV_text t hf.1 (by omega) h (TR_stopR ts x)
   have h2 := drop_more h
   simp only [rdL, h1]
   cases ts with
   | nil =>
     rw [skp_no (b := 44) h2 (by decide), if_neg (by simp)]
     simp [TRj, TR]
   | cons u ts =>
     have h3 : l.drop (a + (tL (textT t)).length + 1) = TRj (u :: ts) ++ 93 :: x := by
      have : l.drop (a + (tL (textT t)).length) = [44] ++ (TRj (u :: ts) ++ 93 :: x) := by rw [h2]; simp [TR, TRj]
      exact drop_more (w := [44]) this
     have hr := rdL_text (u :: ts) (c := c) (by simp) (by simpa using hc) hf.2 (by omega) h3
     rw [skp_yes (p := [44]) (r := TRj (u :: ts) ++ 93 :: x) (by rw [h2]; simp [TR, TRj]), if_pos rfl, hr]
     simp only [TRj, TR, List.length_append, List.length_cons, Prod.mk.injEq, true_and]
     omega
theorem rdM_text : ∀ (ts : List T) {ks : List ByteArray} {d : Nat} {l : List UInt8} {c a : Nat} {x : List UInt8}, ts ≠ [] -> ts.length <= c -> ks.length = ts.length -> (∀ s ∈ ks, okS s) -> formL ts d -> sizeL ts <= 60 -> l.drop a = TMj ks ts ++ 125 :: x -> rdM (rdV d l) l c a = (ks, ts, a + (TMj ks ts).length)
 | [], _, _, _, _, _, _, h, _, _, _, _, _, _ => absurd rfl h
 | t :: ts, _, d, l, 0, a, x, _, hc, _, _, _, _, _ => by simp at hc
 | t :: ts, [], d, l, c + 1, a, x, _, _, hk, _, _, _, _ => by simp at hk
 | t :: ts, z :: ks, d, l, c + 1, a, x, _, hc, hk, ok, hf, hz, h => by
   simp only [formL] at hf
   simp only [sizeL] at hz
   have hp := sizeT_posR t
   have hl := len_sizeL ts
   simp only [TMj, List.headD_cons, List.tail_cons, List.append_assoc, List.cons_append] at h
   obtain ⟨u1, u2⟩ := upTo_eq (e := [58]) h (ltr_ne (ok z (by simp)) (by decide)) (fun b r e => by cases e; rfl)
   have h1 := drop_more h
   rw [<- u1] at h1
   have h2 : l.drop (upTo l [58] a + 1) = tL (textT t) ++ (TM ks ts ++ 125 :: x) := drop_more (w := [58]) h1
   have h3 := rdV_text t hf.1 (by omega) h2 (TM_stopR ks ts x)
   have h4 := drop_more h2
   simp only [rdM, u2, clo_yes (p := [58]) h1, List.length_cons, List.length_nil, Nat.zero_add, h3, bL_tL]
   cases ts with
   | nil =>
     have hk0 : ks = [] := List.eq_nil_of_length_eq_zero (by simpa using hk)
     subst hk0
     rw [skp_no (b := 44) h4 (by decide), if_neg (by simp), u1]
     simp only [TMj, TM, List.headD_cons, List.append_nil, List.length_append, List.length_cons, Prod.mk.injEq, true_and]
     omega
   | cons u ts =>
     cases ks with
     | nil => simp at hk
     | cons z' ks =>
       have h5 : l.drop (upTo l [58] a + 1 + (tL (textT t)).length + 1) = TMj (z' :: ks) (u :: ts) ++ 125 :: x := by
        have : l.drop (upTo l [58] a + 1 + (tL (textT t)).length) = [44] ++ (TMj (z' :: ks) (u :: ts) ++ 125 :: x) := by rw [h4]; simp [TM, TMj]
        exact drop_more (w := [44]) this
       have hr := rdM_text (u :: ts) (ks := z' :: ks) (c := c) (by simp) (by simpa using hc) (by simpa using hk) (fun s hs => ok s (List.mem_cons_of_mem _ hs)) hf.2 (by omega) h5
       rw [skp_yes (p := [44]) (r := TMj (z' :: ks) (u :: ts) ++ 125 :: x) (by rw [h4]; simp [TM, TMj]), if_pos rfl, hr, u1]
       simp only [TMj, TM, List.headD_cons, List.tail_cons, List.length_append, List.length_cons, Prod.mk.injEq, true_and]
       omega
end
theorem rdV_ok_text {t : T} (h : okT t) : rdV 6 (tL (textT t)) 0 = (t, (tL (textT t)).length) := by
 have := rdV_text t (d := 6) (l := tL (textT t)) (a := 0) (x := []) h.1 (okT_size h) (by simp) trivial
 simpa using this
end Go.Proofs.Pw
namespace Go.Proofs.Pw
def ltrB (c : UInt8) : Bool := decide (97 <= c.toNat /\ c.toNat <= 122)
def dgtB (c : UInt8) : Bool := decide (48 <= c.toNat /\ c.toNat <= 57)
def spanE (p : UInt8 -> Bool) (l : List UInt8) (a : Nat) : Nat := a + ((l.drop a).takeWhile p).length
def atB (l : List UInt8) (a : Nat) (c : UInt8) : Bool := l[a]? == some c
def numOk (neg : Bool) (m : List UInt8) : Prop := m ≠ [] /\ m.length <= 17 /\ ¬ (m.head? = some 48 /\ (1 < m.length \/ neg = true)) /\ ∀ b ∈ m, dgtB b = true
noncomputable instance (neg : Bool) (m : List UInt8) : Decidable (numOk neg m) := Classical.propDecidable _
noncomputable def numR (s : List UInt8) : Option Int :=
 if s.head? = some 45 then (if numOk true s.tail then some (-(dv s.tail : Int)) else none) else (if numOk false s then some (dv s : Int) else none)
def numE (l : List UInt8) (a : Nat) : Nat := spanE dgtB l (if atB l a 45 then a + 1 else a)
noncomputable def psN (l : List UInt8) (a : Nat) : T × Int := match numR (sub l a (numE l a)) with
 | some n => (.mk 3 n ⟨#[]⟩ [] [], (numE l a : Int))
 | none => (T.zero, -1)
def psW (l : List UInt8) (a : Nat) : T × Int :=
 if sub l a (spanE ltrB l a) = [110, 117, 108, 108] then (T.zero, (spanE ltrB l a : Int))
 else if sub l a (spanE ltrB l a) = [102, 97, 108, 115, 101] then (.mk 1 0 ⟨#[]⟩ [] [], (spanE ltrB l a : Int))
 else if sub l a (spanE ltrB l a) = [116, 114, 117, 101] then (.mk 2 0 ⟨#[]⟩ [] [], (spanE ltrB l a : Int))
 else (T.zero, -1)
def psL (f : Nat -> T × Int) (l : List UInt8) : Nat -> Nat -> List T × Int
 | 0, _ => ([], -1)
 | c + 1, a =>
   if (f a).2 < 0 then ([], -1)
   else if atB l (f a).2.toNat 93 then ([(f a).1], (f a).2 + 1)
   else if atB l (f a).2.toNat 44 then ((f a).1 :: (psL f l c ((f a).2.toNat + 1)).1, (psL f l c ((f a).2.toNat + 1)).2)
   else ([(f a).1], -1)
def psM (f : Nat -> T × Int) (l : List UInt8) : Nat -> Nat -> List ByteArray × List T × Int
 | 0, _ => ([], [], -1)
 | c + 1, a =>
   if atB l (spanE ltrB l a) 58 then
    (let k := bL (sub l a (spanE ltrB l a))
    let r := f (spanE ltrB l a + 1)
    if r.2 < 0 then ([k], [], -1)
    else if atB l r.2.toNat 125 then ([k], [r.1], r.2 + 1)
    else if atB l r.2.toNat 44 then (k :: (psM f l c (r.2.toNat + 1)).1, r.1 :: (psM f l c (r.2.toNat + 1)).2.1, (psM f l c (r.2.toNat + 1)).2.2)
    else ([k], [r.1], -1))
   else ([], [], -1)
noncomputable def psV : Nat -> List UInt8 -> Nat -> T × Int
 | 0, _, _ => (T.zero, -1)
 | d + 1, l, a =>
   if l.length <= a then (T.zero, -1)
   else if atB l a 91 then
    if atB l (a + 1) 93 then (.mk 5 0 ⟨#[]⟩ [] [], (a : Int) + 2)
    else (.mk 5 0 ⟨#[]⟩ [] (psL (psV d l) l 61 (a + 1)).1, (psL (psV d l) l 61 (a + 1)).2)
   else if atB l a 123 then
    if atB l (a + 1) 125 then (.mk 6 0 ⟨#[]⟩ [] [], (a : Int) + 2)
    else (.mk 6 0 ⟨#[]⟩ (psM (psV d l) l 61 (a + 1)).1 (psM (psV d l) l 61 (a + 1)).2.1, (psM (psV d l) l 61 (a + 1)).2.2)
   else if atB l a 39 then
    if atB l (spanE ltrB l (a + 1)) 39 then (.mk 4 0 (bL (sub l (a + 1) (spanE ltrB l (a + 1)))) [] [], (spanE ltrB l (a + 1) : Int) + 1) else (T.zero, -1)
   else if ltrB (l.getD a 0) then psW l a
   else psN l a
theorem atB_of {l r : List UInt8} {a : Nat} {c : UInt8} (h : l.drop a = c :: r) : atB l a c = true := by
 have h1 : l[a]? = some c := by
  have := congrArg (fun x => x[0]?) h
  simpa using this
 unfold atB; rw [h1]; simp
theorem atB_not {l r : List UInt8} {a : Nat} {c b : UInt8} (h : l.drop a = c :: r) (hne : c ≠ b) : atB l a b = false := by
 have h1 : l[a]? = some c := by
  have := congrArg (fun x => x[0]?) h
  simpa using this
 unfold atB; rw [h1]; simpa using hne
end Go.Proofs.Pw
