/- Trees that nobody else holds. -/
import Derived.Test.YtaiacpgnnfinlaaDoorPwT9
import Derived.Test.YtaiacpgnnfinlaaDoorPwT14
import Derived.Test.YtaiacpgnnfinlaaDoorPwT15
import Derived.Test.YtaiacpgnnfinlaaDoorPwT10
set_option linter.unusedSimpArgs false
set_option linter.unusedVariables false
namespace Go.Proofs.Pw
mutual
def T.encX : T → List C
  | .mk k n s ks l => [.int .i64 k, .int .i64 n, .str s, .own 1 (strs ks), .own 5 (encLX l)]
def encLX : List T → List (List C)
  | [] => []
  | t :: l => t.encX :: encLX l
end
theorem encLX_map (l : List T) : encLX l = l.map T.encX := by
  induction l with
  | nil => simp [encLX]
  | cons t l ih => simp [encLX, ih]
theorem encLX_len (l : List T) : (encLX l).length = l.length := by rw [encLX_map]; simp
theorem T.encX_len (t : T) : t.encX.length = 5 := by cases t; simp [T.encX]
mutual
theorem dtL_encX : ∀ t : T, dtL t.encX = some t.enc
  | .mk k n s ks l => by simp [T.encX, T.enc, dtL, dtC, dtR_encLX l]
theorem dtR_encLX : ∀ l : List T, dtR (encLX l) = some (encL l)
  | [] => rfl
  | t :: l => by simp [encLX, encL, dtR, dtL_encX t, dtR_encLX l]
end
mutual
theorem flL_encX : ∀ t : T, flL t.encX = true
  | .mk k n s ks l => by
    have h : flR (strs ks) = true := by
      induction ks with
      | nil => rfl
      | cons s ks ih => simp only [strs, List.map_cons, flR, flL, flC, Bool.and_true, Bool.true_and]; exact ih
    simp [T.encX, flL, flC, flR_encLX l, h]
theorem flR_encLX : ∀ l : List T, flR (encLX l) = true
  | [] => rfl
  | t :: l => by simp [encLX, flR, flL_encX t, flR_encLX l]
end
theorem flR_strs (ks : List ByteArray) : flR (strs ks) = true := by
  induction ks with
  | nil => rfl
  | cons s ks ih => simp only [strs, List.map_cons, flR, flL, flC, Bool.and_true, Bool.true_and]; exact ih
attribute [go_sem] flR_strs flR_encLX callL AV.fl Pt.fl flatC encLX_len T.encX_len dtR_encLX allX allXs bslQ Q.toX delR nodupN List.contains_nil List.contains_cons
end Go.Proofs.Pw
/- Ways, and rows of ways. -/
namespace Go.Proofs.Pw
structure Stp where
  map : Bool
  key : ByteArray
  at' : Int
noncomputable instance : DecidableEq Stp := fun a b => Classical.propDecidable (a = b)
def Stp.enc (s : Stp) : List C := [.bool s.map, .str s.key, .int .i64 s.at']
def encS (l : List Stp) : List (List C) := l.map Stp.enc
/-- Rows of ways that nobody else holds. -/
def encSX (l : List (List Stp)) : List (List C) := l.map fun p => [.own 3 (encS p)]
/-- Rows of ways, as data. -/
def encSS (l : List (List Stp)) : List (List C) := l.map fun p => [.row 3 (encS p)]
theorem encS_len (l : List Stp) : (encS l).length = l.length := by simp [encS]
theorem encSX_len (l : List (List Stp)) : (encSX l).length = l.length := by simp [encSX]
theorem plainR_encS (l : List Stp) : plainR (encS l) = true := by
  induction l with
  | nil => rfl
  | cons s l ih => simp only [encS, List.map_cons, plainR_cons, Stp.enc, List.all_cons, plainC, List.all_nil, Bool.and_true, Bool.true_and]; exact ih
@[simp] theorem dtR_encS (l : List Stp) : dtR (encS l) = some (encS l) := dtR_plain (plainR_encS l)
theorem flR_encS (l : List Stp) : flR (encS l) = true := by
  induction l with
  | nil => rfl
  | cons s l ih => simp only [encS, List.map_cons, flR, flL, flC, Stp.enc, Bool.and_true, Bool.true_and]; exact ih
theorem flR_encSX (l : List (List Stp)) : flR (encSX l) = true := by
  induction l with
  | nil => rfl
  | cons s l ih => simp only [encSX, List.map_cons, flR, flL, flC, flR_encS, Bool.and_true, Bool.true_and]; exact ih
@[simp] theorem dtR_encSX (l : List (List Stp)) : dtR (encSX l) = some (encSS l) := by
  induction l with
  | nil => rfl
  | cons s l ih =>
    simp only [encSX, encSS, List.map_cons] at ih ⊢
    simp only [dtR, dtL, dtC, dtR_encS, Option.map_some, ih]
theorem encS_inj : ∀ {a b : List Stp}, encS a = encS b → a = b := by
  intro a
  induction a with
  | nil => intro b h; cases b with
    | nil => rfl
    | cons _ _ => simp [encS] at h
  | cons x a ih => intro b h; cases b with
    | nil => simp [encS] at h
    | cons y b =>
      obtain ⟨m, k, n⟩ := x
      obtain ⟨m', k', n'⟩ := y
      simp only [encS, List.map_cons, List.cons.injEq, Stp.enc, C.bool.injEq, C.str.injEq, C.int.injEq, true_and, and_true] at h
      obtain ⟨⟨rfl, rfl, rfl⟩, h2⟩ := h
      rw [ih h2]
attribute [go_sem] encS_len encSX_len plainR_encS flR_encS flR_encSX dtR_encSX dtR_encS
end Go.Proofs.Pw
/- Ways: what they are, what lies at their end, and what is put there. -/
namespace Go.Proofs.Pw
def stpOk (s : Stp) : Prop := if s.map = true then okS s.key ∧ s.at' = 0 else s.key = ⟨#[]⟩ ∧ -60 ≤ s.at' ∧ s.at' ≤ 59
noncomputable instance (s : Stp) : Decidable (stpOk s) := Classical.propDecidable _
def wayOk (p : List Stp) : Prop := (∀ s ∈ p, stpOk s) ∧ p.length ≤ 6
noncomputable instance (p : List Stp) : Decidable (wayOk p) := Classical.propDecidable _
def atOk (v : T) : Prop := v.kind = 5 ∨ v.kind = 0
noncomputable instance (v : T) : Decidable (atOk v) := Classical.propDecidable _
def canGo (s : Stp) (v : T) : Prop := if s.map = true then getOk v else atOk v
noncomputable instance (s : Stp) (v : T) : Decidable (canGo s v) := Classical.propDecidable _
theorem Stp.enc_eq {a b : Stp} : a.enc = b.enc ↔ a = b := ⟨fun h => by
  obtain ⟨m, k, n⟩ := a
  obtain ⟨m', k', n'⟩ := b
  simp only [Stp.enc, List.cons.injEq, C.bool.injEq, C.str.injEq, C.int.injEq, true_and, and_true] at h
  obtain ⟨rfl, rfl, rfl⟩ := h
  rfl, fun h => h ▸ rfl⟩
theorem Stp.len3 (s : Stp) : s.enc.length = 3 := rfl
theorem Stp.take3 (s : Stp) : s.enc.take 3 = s.enc := rfl
theorem Stp.takeQ (s : Stp) : (s.enc.map Q.c).take 3 = s.enc.map Q.c := rfl
attribute [go_sem] Stp.take3 Stp.takeQ Stp.len3
end Go.Proofs.Pw
/- Marks: what the laws write into trees, and look for. -/
namespace Go.Proofs.Pw
def digF : Nat → Int → ByteArray → ByteArray
  | 0, _, out => out
  | f + 1, k, out => if 0 < k then digF f (k.tdiv 10) (bytesS [48 + k.tmod 10] ++ out) else out
def mkS (k : Int) : ByteArray := if k ≤ 0 then ⟨#[109, 48]⟩ else ⟨#[109]⟩ ++ digF k.toNat k ⟨#[]⟩
def mkKs : List ByteArray → Int → List ByteArray
  | [], _ => []
  | _ :: r, k => mkS k :: mkKs r (k + 1)
mutual
def nmT : T → Int
  | .mk _ _ _ ks l => 3 + ks.length + nmL l
def nmL : List T → Int
  | [] => 0
  | t :: l => nmT t + nmL l
end
mutual
def mkT : T → Int → T
  | .mk _ _ _ ks l, k => .mk k (k + 1) (mkS (k + 2)) (mkKs ks (k + 3)) (mkL l (k + 3 + ks.length))
def mkL : List T → Int → List T
  | [], _ => []
  | t :: l, k => mkT t k :: mkL l (k + nmT t)
end
theorem mkKs_len : ∀ {ks : List ByteArray} {k : Int}, (mkKs ks k).length = ks.length
  | [], _ => rfl
  | _ :: r, k => by simp [mkKs, mkKs_len (ks := r)]
mutual
theorem nmT_nn : ∀ t : T, 3 ≤ nmT t
  | .mk _ _ _ ks l => by have := nmL_nn l; simp only [nmT]; omega
theorem nmL_nn : ∀ l : List T, 0 ≤ nmL l
  | [] => by simp [nmL]
  | t :: l => by have := nmT_nn t; have := nmL_nn l; simp only [nmL]; omega
end
mutual
theorem nmT_mk : ∀ (t : T) (k : Int), nmT (mkT t k) = nmT t
  | .mk _ _ _ ks l, k => by simp only [mkT, nmT, mkKs_len, nmL_mk l]
theorem nmL_mk : ∀ (l : List T) (k : Int), nmL (mkL l k) = nmL l
  | [], _ => rfl
  | t :: l, k => by simp only [mkL, nmL, nmT_mk t, nmL_mk l]
end
theorem mkKs_mk : ∀ (ks : List ByteArray) (k : Int), mkKs (mkKs ks k) k = mkKs ks k
  | [], _ => rfl
  | _ :: r, k => by simp only [mkKs, mkKs_mk r]
mutual
theorem mkT_mk : ∀ (t : T) (k : Int), mkT (mkT t k) k = mkT t k
  | .mk _ _ _ ks l, k => by simp only [mkT, mkKs_mk, mkKs_len, mkL_mk l]
theorem mkL_mk : ∀ (l : List T) (k : Int), mkL (mkL l k) k = mkL l k
  | [], _ => rfl
  | t :: l, k => by simp only [mkL, mkT_mk t, nmT_mk t, mkL_mk l]
end
mutual
theorem nmT_sz : ∀ {t : T} {left : Int}, 0 ≤ left → 0 ≤ szT t left → nmT t ≤ 3 + 3 * (left - szT t left)
  | .mk k n s ks l, left, h, h0 => by
    simp only [szT] at h0 ⊢
    split at h0
    · omega
    · rename_i c1
      rw [if_neg c1]
      split at h0
      · omega
      · rename_i c2
        rw [if_neg c2]
        split at h0
        · omega
        · rename_i c3
          rw [if_neg c3]
          have h1 := szStrS_le (ks := ks) (left := left - s.size) (by omega)
          have h2 : szStrS ks (left - s.size) ≤ left - s.size - ks.length := by
            have := h1; simp only [szStrS] at c2 ⊢; split
            · rename_i c; rw [if_pos c] at c2; omega
            · exact (szStr_le (by omega)).1
          have h3 := nmL_sz (l := l) (left := szStrS ks (left - s.size) - l.length) (by omega) h0
          simp only [nmT]; omega
theorem nmL_sz : ∀ {l : List T} {left : Int}, 0 ≤ left → 0 ≤ szTL l left → nmL l ≤ 3 * l.length + 3 * (left - szTL l left)
  | [], left, h, h0 => by simp [nmL, szTL]
  | t :: r, left, h, h0 => by
    simp only [szTL] at h0 ⊢
    split at h0
    · omega
    · rename_i c1
      rw [if_neg c1]
      have h1 := nmT_sz (t := t) h (by omega)
      have h2 := nmL_sz (l := r) (left := szT t left) (by omega) h0
      simp only [nmL, List.length_cons]; omega
end
end Go.Proofs.Pw
/- What is small enough by the laws' count fits. -/
namespace Go.Proofs.Pw
theorem szStr_fit : ∀ {ks : List ByteArray} {left : Int}, 0 ≤ left → 0 ≤ szStr ks left → ∀ s ∈ ks, (s.size : Int) ≤ left := by
  intro ks
  induction ks with
  | nil => intro left _ _ s hs; simp at hs
  | cons x r ih =>
    intro left h0 h s hs
    simp only [szStr] at h
    split at h
    · omega
    · rcases List.mem_cons.1 hs with rfl | hs
      · omega
      · have := ih (left := left - x.size) (by omega) h s hs; omega
theorem szStrS_fit {ks : List ByteArray} {left : Int} (h0 : 0 ≤ left) (hl : left ≤ 1048576) (h : 0 ≤ szStrS ks left) : strsFit 1048576 ks := by
  simp only [szStrS] at h
  split at h
  · omega
  · refine ⟨by unfold lenB; omega, fun s hs => ?_⟩
    have := szStr_fit (left := left - ks.length) (by omega) h s hs
    unfold lenB; omega
mutual
theorem szT_fit : ∀ {t : T} {left : Int} {B : Int}, 0 ≤ left → left ≤ 1048576 → t.fit B → 0 ≤ szT t left → t.fit 1048576 ∧ sizeT t ≤ left - szT t left + 1
  | .mk k n s ks l, left, B, h0, hl, hf, h => by
    simp only [T.fit] at hf ⊢
    simp only [szT, sizeT] at h ⊢
    have e1 := szStrS_le (ks := ks) (left := left - s.size)
    split at h
    · omega
    · split at h
      · omega
      · split at h
        · omega
        · rename_i a b c
          rw [if_neg a, if_neg b, if_neg c]
          have h1 := szStrS_fit (ks := ks) (left := left - s.size) (by omega) (by omega) (by omega)
          have h2 := szTL_fit (l := l) (B := B) (left := szStrS ks (left - s.size) - l.length) (by omega) (by omega) hf.2.2.2.2.2 h
          refine ⟨⟨hf.1, hf.2.1, by unfold lenB; omega, h1, by unfold lenB; omega, h2.1⟩, by omega⟩
theorem szTL_fit : ∀ {l : List T} {left : Int} {B : Int}, 0 ≤ left → left ≤ 1048576 → fitL B l → 0 ≤ szTL l left → fitL 1048576 l ∧ sizeL l ≤ left - szTL l left + l.length
  | [], left, B, h0, hl, hf, h => by simp [fitL, sizeL, szTL]
  | t :: r, left, B, h0, hl, hf, h => by
    simp only [fitL] at hf ⊢
    simp only [szTL, sizeL, List.length_cons] at h ⊢
    have e1 := szT_le (t := t) h0
    split at h
    · omega
    · rename_i a
      rw [if_neg a]
      have h1 := szT_fit (t := t) h0 hl hf.1 (by omega)
      have h2 := szTL_fit (l := r) (left := szT t left) (by omega) (by omega) hf.2 h
      exact ⟨⟨h1.1, h2.1⟩, by omega⟩
end
end Go.Proofs.Pw
namespace Go.Proofs.Pw
mutual
theorem szF_fit : ∀ {t : F} {left : Int} {B : Int}, 0 ≤ left → left ≤ 1048576 → t.fit B → 0 ≤ szF t left → t.fit 1048576 ∧ smallF t ∧ sizeF t ≤ left - szF t left + 1
  | .mk k n s v l, left, B, h0, hl, hf, h => by
    simp only [F.fit] at hf ⊢
    simp only [szF, sizeF, smallF] at h ⊢
    have e1 := szT_le (t := v) (left := left - s.size)
    split at h
    · omega
    · split at h
      · omega
      · split at h
        · omega
        · rename_i a b c
          rw [if_neg a, if_neg b, if_neg c]
          have h1 := szT_fit (t := v) (B := B) (left := left - s.size) (by omega) (by omega) hf.2.2.2.1 (by omega)
          have h2 := szFL_fit (l := l) (B := B) (left := szT v (left - s.size) - l.length) (by omega) (by omega) hf.2.2.2.2.2 h
          refine ⟨⟨hf.1, hf.2.1, by unfold lenB; omega, h1.1, by unfold lenB; omega, h2.1⟩, ⟨by omega, h2.2.1⟩, by omega⟩
theorem szFL_fit : ∀ {l : List F} {left : Int} {B : Int}, 0 ≤ left → left ≤ 1048576 → fitF B l → 0 ≤ szFL l left → fitF 1048576 l ∧ smallFL l ∧ sizeFL l ≤ left - szFL l left + l.length
  | [], left, B, h0, hl, hf, h => by simp [fitF, sizeFL, szFL, smallFL]
  | t :: r, left, B, h0, hl, hf, h => by
    simp only [fitF] at hf ⊢
    simp only [szFL, sizeFL, smallFL, List.length_cons] at h ⊢
    have e1 := szF_le (t := t) h0
    split at h
    · omega
    · rename_i a
      rw [if_neg a]
      have h1 := szF_fit (t := t) h0 hl hf.1 (by omega)
      have h2 := szFL_fit (l := r) (left := szF t left) (by omega) (by omega) hf.2 h
      exact ⟨⟨h1.1, h2.1⟩, ⟨h1.2.1, h2.2.1⟩, by omega⟩
end
end Go.Proofs.Pw
namespace Go.Proofs.Pw
end Go.Proofs.Pw
namespace Go.Proofs.Pw
section
set_option linter.unusedSectionVars false
variable {B B' : Int} (hB : B ≤ B')
include hB
theorem lenB_le {n : Nat} (h : lenB B n) : lenB B' n := by unfold lenB at *; omega
theorem strsFit_le {ks : List ByteArray} (h : strsFit B ks) : strsFit B' ks := ⟨lenB_le hB h.1, fun s hs => lenB_le hB (h.2 s hs)⟩
mutual
theorem T.fit_le : ∀ {t : T}, t.fit B → t.fit B'
  | .mk k n s ks l, h => by
    simp only [T.fit] at h ⊢
    exact ⟨h.1, h.2.1, lenB_le hB h.2.2.1, strsFit_le hB h.2.2.2.1, lenB_le hB h.2.2.2.2.1, fitL_le h.2.2.2.2.2⟩
theorem fitL_le : ∀ {l : List T}, fitL B l → fitL B' l
  | [], _ => trivial
  | t :: l, h => by
    simp only [fitL] at h ⊢
    exact ⟨T.fit_le h.1, fitL_le h.2⟩
end
mutual
theorem F.fit_le : ∀ {t : F}, t.fit B → t.fit B'
  | .mk k n s v l, h => by
    simp only [F.fit] at h ⊢
    exact ⟨h.1, h.2.1, lenB_le hB h.2.2.1, T.fit_le hB h.2.2.2.1, lenB_le hB h.2.2.2.2.1, fitF_le h.2.2.2.2.2⟩
theorem fitF_le : ∀ {l : List F}, fitF B l → fitF B' l
  | [], _ => trivial
  | t :: l, h => by
    simp only [fitF] at h ⊢
    exact ⟨F.fit_le h.1, fitF_le h.2⟩
end
theorem Tk.fit_le {t : Tk} (h : t.fit B) : t.fit B' := ⟨T.fit_le hB h.1, lenB_le hB h.2.1, fitF_le hB h.2.2⟩
theorem Gn.fit_le {g : Gn} (h : g.fit B) : g.fit B' := ⟨lenB_le hB h.1, fun t ht => Tk.fit_le hB (h.2.1 t ht), h.2.2⟩
end
end Go.Proofs.Pw
/- Ways in the laws' text: their size, and the marks on them. -/
namespace Go.Proofs.Pw
end Go.Proofs.Pw
/- Edits, as they lie in cells; their size; their texts. -/
namespace Go.Proofs.Pw
structure Ed where
  path : List Stp
  was : T
  had : Bool
  now : T
  has : Bool
noncomputable instance : DecidableEq Ed := fun a b => Classical.propDecidable (a = b)
def Ed.enc (e : Ed) : List C := .row 3 (encS e.path) :: (e.was.enc ++ (.bool e.had :: (e.now.enc ++ [.bool e.has])))
def encE (l : List Ed) : List (List C) := l.map Ed.enc
theorem encE_len (l : List Ed) : (encE l).length = l.length := by simp [encE]
theorem Ed.enc_len (e : Ed) : e.enc.length = 13 := by simp [Ed.enc, T.enc_len]
theorem Ed.enc_inj {a b : Ed} (h : a.enc = b.enc) : a = b := by
  obtain ⟨p, w, hd, n, hs⟩ := a
  obtain ⟨p', w', hd', n', hs'⟩ := b
  simp only [Ed.enc, List.cons.injEq, C.row.injEq, true_and] at h
  obtain ⟨h1, h2⟩ := h
  obtain ⟨h3, h4⟩ := List.append_inj h2 (by rw [T.enc_len, T.enc_len])
  simp only [List.cons.injEq, C.bool.injEq] at h4
  obtain ⟨h5, h6⟩ := h4
  obtain ⟨h7, h8⟩ := List.append_inj h6 (by rw [T.enc_len, T.enc_len])
  simp only [List.cons.injEq, C.bool.injEq, and_true] at h8
  rw [encS_inj h1, T.enc_inj h3, h5, T.enc_inj h7, h8]
theorem Ed.enc_eq {a b : Ed} : a.enc = b.enc ↔ a = b := ⟨Ed.enc_inj, fun h => h ▸ rfl⟩
theorem Ed.enc_plain (e : Ed) : e.enc.all plainC = true := by
  simp only [Ed.enc, List.all_cons, List.all_append, T.enc_plain, List.all_nil, Bool.and_true, Bool.true_and]
  simp only [plainC, plainR_encS, Bool.and_true, Bool.true_and]
theorem plainR_encE (l : List Ed) : plainR (encE l) = true := by
  induction l with
  | nil => rfl
  | cons t l ih => simp only [encE, List.map_cons, plainR_cons, Ed.enc_plain]; exact ih
@[simp] theorem dtR_encE (l : List Ed) : dtR (encE l) = some (encE l) := dtR_plain (plainR_encE l)
theorem Ed.enc_toLs (i k o : Nat) (t : Ed) : toLs i k o t.enc = t.enc.map Q.c := toLs_plain t.enc_plain
theorem Ed.enc_take (t : Ed) : (t.enc.map Q.c).take 13 = t.enc.map Q.c := List.take_of_length_le (by simp [Ed.enc_len])
theorem Ed.enc_take13 (t : Ed) : t.enc.take 13 = t.enc := List.take_of_length_le (by simp [Ed.enc_len])
attribute [simp] plainR_encE
attribute [go_sem] encE_len Ed.enc_plain plainR_encE dtR_encE Ed.enc_toLs Ed.enc_take Ed.enc_take13
/-! Sizes. -/
/-! Texts. -/
end Go.Proofs.Pw
/- Texts tell what they are texts of: numbers, steps, ways. -/
namespace Go.Proofs.Pw
/-! Numbers. -/
def dv (l : List UInt8) : Nat := l.foldl (fun r b => r * 10 + (b.toNat - 48)) 0
theorem dv_snoc (l : List UInt8) (b : UInt8) : dv (l ++ [b]) = dv l * 10 + (b.toNat - 48) := by simp [dv, List.foldl_append]
theorem dig_nat {x : Nat} (h : x < 10) : (UInt8.ofNat (48 + x)).toNat = 48 + x := by
  rw [UInt8.toNat_ofNat']
  omega
theorem dv_dec (u : Nat) : dv (Lib.decDigits u) = u := by
  induction u using Nat.strongRecOn with
  | _ u ih =>
    by_cases h : u < 10
    · rw [Lib.decDigits, dif_pos h]
      have := dig_nat h
      simp only [dv, List.foldl_cons, List.foldl_nil, this]; omega
    · rw [Lib.decDigits, dif_neg h, dv_snoc, ih (u / 10) (by omega), dig_nat (by omega)]; omega
theorem dec_dig (u : Nat) : ∀ b ∈ Lib.decDigits u, 48 ≤ b.toNat ∧ b.toNat ≤ 57 := by
  induction u using Nat.strongRecOn with
  | _ u ih =>
    by_cases h : u < 10
    · rw [Lib.decDigits, dif_pos h]
      intro b hb
      simp only [List.mem_singleton] at hb
      have := dig_nat h
      rw [hb]; omega
    · rw [Lib.decDigits, dif_neg h]
      intro b hb
      rcases List.mem_append.1 hb with hb | hb
      · exact ih (u / 10) (by omega) b hb
      · simp only [List.mem_singleton] at hb
        have := dig_nat (show u % 10 < 10 by omega)
        rw [hb]; omega
theorem dec_ne (u : Nat) : Lib.decDigits u ≠ [] := by
  rw [Lib.decDigits]
  split <;> simp
theorem dec_inj {u v : Nat} (h : Lib.decDigits u = Lib.decDigits v) : u = v := by rw [← dv_dec u, ← dv_dec v, h]
theorem itoa_chr (n : Int) : ∀ b ∈ Lib.itoa n, b.toNat = 45 ∨ 48 ≤ b.toNat ∧ b.toNat ≤ 57 := by
  intro b hb
  unfold Lib.itoa at hb
  split at hb
  · rcases List.mem_cons.1 hb with rfl | hb
    · exact .inl rfl
    · exact .inr (dec_dig _ b hb)
  · exact .inr (dec_dig _ b hb)
theorem dec_not45 (u : Nat) (l : List UInt8) : Lib.decDigits u ≠ 45 :: l := fun h => by
  have := dec_dig u 45 (by rw [h]; simp)
  have e : (45 : UInt8).toNat = 45 := rfl
  omega
theorem itoa_inj {m n : Int} (h : Lib.itoa m = Lib.itoa n) : m = n := by
  unfold Lib.itoa at h
  split at h <;> split at h
  · have := dec_inj (List.cons.inj h).2; omega
  · exact absurd h.symm (dec_not45 _ _)
  · exact absurd h (dec_not45 _ _)
  · have := dec_inj h; omega
/-! Cutting at the first byte that is of another kind. -/
def stops (P : UInt8 → Prop) : List UInt8 → Prop
  | [] => True
  | b :: _ => ¬ P b
theorem span_inj {P : UInt8 → Prop} : ∀ {a b x y : List UInt8}, (∀ c ∈ a, P c) → (∀ c ∈ b, P c) → stops P x → stops P y → a ++ x = b ++ y → a = b ∧ x = y
  | [], [], x, y, _, _, _, _, h => ⟨rfl, h⟩
  | [], c :: b, x, y, _, hb, hx, _, h => by
    simp only [List.nil_append, List.cons_append] at h
    subst h
    exact absurd (hb c (by simp)) hx
  | c :: a, [], x, y, ha, _, _, hy, h => by
    simp only [List.nil_append, List.cons_append] at h
    subst h
    exact absurd (ha c (by simp)) hy
  | c :: a, d :: b, x, y, ha, hb, hx, hy, h => by
    simp only [List.cons_append, List.cons.injEq] at h
    obtain ⟨rfl, h⟩ := h
    obtain ⟨h1, h2⟩ := span_inj (fun c hc => ha c (List.mem_cons_of_mem _ hc)) (fun c hc => hb c (List.mem_cons_of_mem _ hc)) hx hy h
    exact ⟨by rw [h1], h2⟩
/-! Steps. -/
def tL (s : ByteArray) : List UInt8 := s.data.toList
theorem tL_app (a b : ByteArray) : tL (a ++ b) = tL a ++ tL b := by simp [tL, ByteArray.data_append]
theorem tL_inj {a b : ByteArray} (h : tL a = tL b) : a = b := by
  cases a; cases b
  simp only [tL, Array.toList_inj] at h
  rw [h]
theorem tL_itoa (n : Int) : tL (itoaB n) = Lib.itoa n := bL_toList _
theorem letter_of {s : ByteArray} (h : okS s) : ∀ c ∈ tL s, letter c := h.1
end Go.Proofs.Pw
/- Texts of trees and of filters tell what they are texts of. -/
namespace Go.Proofs.Pw
def stopsV : List UInt8 → Prop
  | [] => True
  | b :: _ => b = 44 ∨ b = 125 ∨ b = 93 ∨ b = 32
def TR : List T → List UInt8
  | [] => []
  | t :: l => 44 :: (tL (textT t) ++ TR l)
def TM : List ByteArray → List T → List UInt8
  | _, [] => []
  | ks, t :: l => 44 :: (tL (ks.headD ⟨#[]⟩) ++ (58 :: (tL (textT t) ++ TM ks.tail l)))
theorem tL_join (xs : List ByteArray) : tL (joinB xs ⟨#[44]⟩) = Lib.join (xs.map tL) [44] := bL_toList _
theorem TR_tail (k : Int) (hk : k ≠ 6) : ∀ (ks : List ByteArray) (l : List T), Lib.joinTail [44] ((textLs k ks l).map tL) = TR l
  | _, [] => rfl
  | ks, t :: l => by
    have := TR_tail k hk ks.tail l
    simp only [Lib.joinTail, List.map_map] at this
    simp only [textLs, if_neg hk, List.map_cons, Lib.joinTail, List.map_map, List.flatten_cons, this, TR]
    rfl
theorem TM_tail : ∀ (ks : List ByteArray) (l : List T), Lib.joinTail [44] ((textLs 6 ks l).map tL) = TM ks l
  | _, [] => rfl
  | ks, t :: l => by
    have := TM_tail ks.tail l
    simp only [Lib.joinTail, List.map_map] at this
    have e : tL ⟨#[58]⟩ = [58] := rfl
    simp only [textLs, if_true, List.map_cons, tL_app, e, Lib.joinTail, List.map_map, List.flatten_cons, this, TM]
    simp
def TRj : List T → List UInt8
  | [] => []
  | t :: l => tL (textT t) ++ TR l
def TMj : List ByteArray → List T → List UInt8
  | _, [] => []
  | ks, t :: l => tL (ks.headD ⟨#[]⟩) ++ (58 :: (tL (textT t) ++ TM ks.tail l))
theorem TRj_eq (k : Int) (hk : k ≠ 6) (ks : List ByteArray) (l : List T) : tL (joinB (textLs k ks l) ⟨#[44]⟩) = TRj l := by
  rw [tL_join]
  cases l with
  | nil => rfl
  | cons t l => simp only [textLs, if_neg hk, List.map_cons, Lib.join_cons, TR_tail k hk, TRj]
theorem TMj_eq (ks : List ByteArray) (l : List T) : tL (joinB (textLs 6 ks l) ⟨#[44]⟩) = TMj ks l := by
  rw [tL_join]
  cases l with
  | nil => rfl
  | cons t l =>
    have e : tL ⟨#[58]⟩ = [58] := rfl
    simp only [textLs, if_true, List.map_cons, Lib.join_cons, TM_tail, TMj, tL_app, e]
    simp
theorem tT_eq (k n : Int) (s : ByteArray) (ks : List ByteArray) (l : List T) : tL (textT (.mk k n s ks l)) =
    if k = 0 then [110, 117, 108, 108] else if k = 1 then [102, 97, 108, 115, 101] else if k = 2 then [116, 114, 117, 101] else if k = 3 then Lib.itoa n
    else if k = 4 then 39 :: (tL s ++ [39]) else if k = 6 then 123 :: (TMj ks l ++ [125]) else 91 :: (TRj l ++ [93]) := by
  have h3 : tL (⟨#[39]⟩ ++ s ++ ⟨#[39]⟩) = 39 :: (tL s ++ [39]) := by rw [tL_app, tL_app]; rfl
  have h6 : tL (⟨#[123]⟩ ++ joinB (textLs 6 ks l) ⟨#[44]⟩ ++ ⟨#[125]⟩) = 123 :: (TMj ks l ++ [125]) := by rw [tL_app, tL_app, TMj_eq]; rfl
  have h5 : k ≠ 6 → tL (⟨#[91]⟩ ++ joinB (textLs k ks l) ⟨#[44]⟩ ++ ⟨#[93]⟩) = 91 :: (TRj l ++ [93]) := fun c => by rw [tL_app, tL_app, TRj_eq k c]; rfl
  rw [textT]
  split
  · rfl
  split
  · rfl
  split
  · rfl
  split
  · exact tL_itoa n
  split
  · exact h3
  split
  · rename_i c; subst c; exact h6
  · rename_i c; exact h5 c
def clsV (c : UInt8) : Int := if c = 110 then 0 else if c = 102 then 1 else if c = 116 then 2 else if c = 39 then 4 else if c = 123 then 6 else if c = 91 then 5 else 3
theorem itoa_ne (n : Int) : ∃ c r, Lib.itoa n = c :: r := by
  unfold Lib.itoa
  split
  · exact ⟨_, _, rfl⟩
  · exact List.exists_cons_of_ne_nil (dec_ne _)
theorem kind_le {k n : Int} {s : ByteArray} {ks : List ByteArray} {l : List T} {d : Int} (h : formT (.mk k n s ks l) d) : 0 ≤ k ∧ k ≤ 6 := by
  simp only [formT] at h
  exact ⟨h.2.2.2.2.2.1, h.2.2.2.2.2.2.1⟩
theorem textT_first {t : T} {d : Int} (h : formT t d) : ∃ c r, tL (textT t) = c :: r ∧ clsV c = t.kind ∧ c ≠ 93 ∧ c ≠ 125 := by
  obtain ⟨k, n, s, ks, l⟩ := t
  have hk := kind_le h
  rw [tT_eq]
  show ∃ c r, _ = c :: r ∧ clsV c = k ∧ c ≠ 93 ∧ c ≠ 125
  by_cases c0 : k = 0
  · subst c0; exact ⟨_, _, rfl, rfl, by decide, by decide⟩
  by_cases c1 : k = 1
  · subst c1; exact ⟨_, _, rfl, rfl, by decide, by decide⟩
  by_cases c2 : k = 2
  · subst c2; exact ⟨_, _, rfl, rfl, by decide, by decide⟩
  by_cases c3 : k = 3
  · subst c3
    obtain ⟨c, r, e⟩ := itoa_ne n
    have hc := itoa_chr n c (by rw [e]; simp)
    refine ⟨c, r, e, ?_, ?_, ?_⟩
    · unfold clsV
      have hne : ∀ m : UInt8, m.toNat ≠ 45 → ¬ (48 ≤ m.toNat ∧ m.toNat ≤ 57) → c ≠ m := fun m h1 h2 e => by rw [e] at hc; exact hc.elim h1 h2
      rw [if_neg (hne _ (by decide) (by decide)), if_neg (hne _ (by decide) (by decide)), if_neg (hne _ (by decide) (by decide)), if_neg (hne _ (by decide) (by decide)), if_neg (hne _ (by decide) (by decide)), if_neg (hne _ (by decide) (by decide))]
    · intro e; rw [e] at hc; revert hc; decide
    · intro e; rw [e] at hc; revert hc; decide
  by_cases c4 : k = 4
  · subst c4; exact ⟨_, _, rfl, rfl, by decide, by decide⟩
  by_cases c6 : k = 6
  · subst c6; exact ⟨_, _, rfl, rfl, by decide, by decide⟩
  have c5 : k = 5 := by omega
  subst c5; exact ⟨_, _, rfl, rfl, by decide, by decide⟩
theorem stops_digit {x : List UInt8} (h : stopsV x) : stops (fun b => b.toNat = 45 ∨ 48 ≤ b.toNat ∧ b.toNat ≤ 57) x := by
  cases x with
  | nil => trivial
  | cons b x => rcases h with rfl | rfl | rfl | rfl <;> (simp only [stops]; decide)
theorem not_letter {c : UInt8} (h : c.toNat < 97 ∨ 122 < c.toNat) : ¬ letter c := by unfold letter; omega
theorem stop_letter (c : UInt8) (h : c.toNat < 97 ∨ 122 < c.toNat) (x : List UInt8) : stops letter (c :: x) := not_letter h
theorem TR_stop (l : List T) (x : List UInt8) : stopsV (TR l ++ 93 :: x) := by
  cases l with
  | nil => exact .inr (.inr (.inl rfl))
  | cons t l => exact .inl rfl
theorem TM_stop (ks : List ByteArray) (l : List T) (x : List UInt8) : stopsV (TM ks l ++ 125 :: x) := by
  cases l with
  | nil => exact .inr (.inl rfl)
  | cons t l => exact .inl rfl
theorem letters_ne {s : ByteArray} (h : okS s) (z : List UInt8) (c : UInt8) (hc : c.toNat < 97 ∨ 122 < c.toNat) (hz : c ≠ 58) (y : List UInt8) : tL s ++ 58 :: z ≠ c :: y := fun e => by
  cases hs : tL s with
  | nil => rw [hs] at e; simp at e; exact hz e.1.symm
  | cons b r =>
    rw [hs] at e
    simp at e
    have := h.1 b (by show b ∈ tL s; rw [hs]; simp)
    unfold letter at this
    rw [e.1] at this; omega
mutual
theorem textT_inj : ∀ (a : T) {b : T} {d d' : Int} {x y : List UInt8}, formT a d → formT b d' → stopsV x → stopsV y → tL (textT a) ++ x = tL (textT b) ++ y → a = b ∧ x = y
  | .mk k n s ks l, .mk k' n' s' ks' l', d, d', x, y, ha, hb, hx, hy, h => by
    obtain ⟨c, r, e1, e2, _, _⟩ := textT_first ha
    obtain ⟨c', r', e1', e2', _, _⟩ := textT_first hb
    have hkk : k = k' := by
      have h' := h
      rw [e1, e1'] at h'
      simp only [List.cons_append, List.cons.injEq] at h'
      rw [h'.1] at e2
      exact e2.symm.trans e2'
    subst hkk
    have hk := kind_le ha
    simp only [formT] at ha hb
    obtain ⟨_, a2, a3, a4, a5, _, _, _, _, a10, a11, a12⟩ := ha
    obtain ⟨_, b2, b3, b4, b5, _, _, _, _, b10, b11, b12⟩ := hb
    rw [tT_eq, tT_eq] at h
    by_cases c3 : k = 3
    · subst c3
      simp only [show ¬ ((3 : Int) = 0) by omega, show ¬ ((3 : Int) = 1) by omega, show ¬ ((3 : Int) = 2) by omega, if_false, if_true] at h
      obtain ⟨h1, h2⟩ := span_inj (itoa_chr n) (itoa_chr n') (stops_digit hx) (stops_digit hy) h
      have := itoa_inj h1
      have q3 := a3.resolve_left (by omega); have q4 := a4.resolve_left (by omega); have q5 := a5.resolve_left (by omega)
      have p3 := b3.resolve_left (by omega); have p4 := b4.resolve_left (by omega); have p5 := b5.resolve_left (by omega)
      subst this q3 q4 q5 p3 p4 p5
      exact ⟨rfl, h2⟩
    have q2 := a2.resolve_left c3
    have p2 := b2.resolve_left c3
    subst q2 p2
    by_cases c4 : k = 4
    · subst c4
      simp only [show ¬ ((4 : Int) = 0) by omega, show ¬ ((4 : Int) = 1) by omega, show ¬ ((4 : Int) = 2) by omega, show ¬ ((4 : Int) = 3) by omega, if_false, if_true, List.cons_append, List.cons.injEq, true_and, List.append_assoc, List.nil_append] at h
      obtain ⟨h1, h2⟩ := span_inj (P := letter) (letter_of a10) (letter_of b10) (stop_letter 39 (by decide) _) (stop_letter 39 (by decide) _) h
      have := tL_inj h1
      have q4 := a4.resolve_left (by omega); have q5 := a5.resolve_left (by omega)
      have p4 := b4.resolve_left (by omega); have p5 := b5.resolve_left (by omega)
      subst this q4 q5 p4 p5
      exact ⟨rfl, (List.cons.inj h2).2⟩
    have q3 := a3.resolve_left c4
    have p3 := b3.resolve_left c4
    subst q3 p3
    by_cases c6 : k = 6
    · subst c6
      simp only [show ¬ ((6 : Int) = 0) by omega, show ¬ ((6 : Int) = 1) by omega, show ¬ ((6 : Int) = 2) by omega, show ¬ ((6 : Int) = 3) by omega, show ¬ ((6 : Int) = 4) by omega, if_false, if_true, List.cons_append, List.cons.injEq, true_and, List.append_assoc, List.nil_append] at h
      obtain ⟨g1, g2⟩ := a11 rfl
      obtain ⟨g1', g2'⟩ := b11 rfl
      have oa : ∀ s ∈ ks, okS s := fun s hs => by
        obtain ⟨i, hi⟩ := List.getElem?_of_mem hs
        exact okKeys_at g2 hi
      have ob : ∀ s ∈ ks', okS s := fun s hs => by
        obtain ⟨i, hi⟩ := List.getElem?_of_mem hs
        exact okKeys_at g2' hi
      have key : TM ks l ++ 125 :: x = TM ks' l' ++ 125 :: y := by
        cases l with
        | nil =>
          cases l' with
          | nil => exact h
          | cons t' l' =>
            simp only [TMj, List.nil_append, List.append_assoc, List.cons_append] at h
            cases ks' with
            | nil => simp at g1'
            | cons z ks' => exact absurd h.symm (letters_ne (ob z (by simp)) _ 125 (by decide) (by decide) _)
        | cons t l =>
          cases l' with
          | nil =>
            simp only [TMj, List.nil_append, List.append_assoc, List.cons_append] at h
            cases ks with
            | nil => simp at g1
            | cons z ks => exact absurd h (letters_ne (oa z (by simp)) _ 125 (by decide) (by decide) _)
          | cons t' l' =>
            simp only [TM, TMj, List.cons_append, List.append_assoc] at h ⊢
            rw [h]
      obtain ⟨h1, h2, h3⟩ := mapT_inj l g1 g1' oa ob a12 b12 key
      subst h1 h2
      exact ⟨rfl, h3⟩
    have q4 := a4.resolve_left c6
    have p4 := b4.resolve_left c6
    subst q4 p4
    by_cases c5 : k = 5
    · subst c5
      simp only [show ¬ ((5 : Int) = 0) by omega, show ¬ ((5 : Int) = 1) by omega, show ¬ ((5 : Int) = 2) by omega, show ¬ ((5 : Int) = 3) by omega, show ¬ ((5 : Int) = 4) by omega, show ¬ ((5 : Int) = 6) by omega, if_false, List.cons_append, List.cons.injEq, true_and, List.append_assoc, List.nil_append] at h
      have key : TR l ++ 93 :: x = TR l' ++ 93 :: y := by
        cases l with
        | nil =>
          cases l' with
          | nil => exact h
          | cons t' l' =>
            simp only [formL] at b12
            obtain ⟨c, r, e, _, hne, _⟩ := textT_first b12.1
            simp only [TRj, List.nil_append, List.append_assoc, e, List.cons_append, List.cons.injEq] at h
            exact absurd h.1.symm hne
        | cons t l =>
          cases l' with
          | nil =>
            simp only [formL] at a12
            obtain ⟨c, r, e, _, hne, _⟩ := textT_first a12.1
            simp only [TRj, List.nil_append, List.append_assoc, e, List.cons_append, List.cons.injEq] at h
            exact absurd h.1 hne
          | cons t' l' =>
            simp only [TR, TRj, List.cons_append, List.append_assoc] at h ⊢
            rw [h]
      obtain ⟨h1, h2⟩ := rowT_inj l a12 b12 key
      subst h1
      exact ⟨rfl, h2⟩
    have q5 := a5.resolve_left (by omega)
    have p5 := b5.resolve_left (by omega)
    subst q5 p5
    refine ⟨rfl, ?_⟩
    exact List.append_cancel_left h
theorem rowT_inj : ∀ (l : List T) {l' : List T} {d d' : Int} {x y : List UInt8}, formL l d → formL l' d' → TR l ++ 93 :: x = TR l' ++ 93 :: y → l = l' ∧ x = y
  | [], [], _, _, _, _, _, _, h => ⟨rfl, by simpa [TR] using h⟩
  | [], _ :: _, _, _, _, _, _, _, h => by simp [TR] at h
  | _ :: _, [], _, _, _, _, _, _, h => by simp [TR] at h
  | t :: l, t' :: l', d, d', x, y, ha, hb, h => by
    simp only [formL] at ha hb
    simp only [TR, List.cons_append, List.cons.injEq, true_and, List.append_assoc] at h
    obtain ⟨rfl, h1⟩ := textT_inj t ha.1 hb.1 (TR_stop l x) (TR_stop l' y) h
    obtain ⟨rfl, h2⟩ := rowT_inj l ha.2 hb.2 h1
    exact ⟨rfl, h2⟩
theorem mapT_inj : ∀ (l : List T) {l' : List T} {ks ks' : List ByteArray} {d d' : Int} {x y : List UInt8}, ks.length = l.length → ks'.length = l'.length → (∀ s ∈ ks, okS s) → (∀ s ∈ ks', okS s) → formL l d → formL l' d' → TM ks l ++ 125 :: x = TM ks' l' ++ 125 :: y → ks = ks' ∧ l = l' ∧ x = y
  | [], [], ks, ks', _, _, _, _, hl, hl', _, _, _, _, h => by
    rw [List.eq_nil_of_length_eq_zero hl, List.eq_nil_of_length_eq_zero hl']
    exact ⟨rfl, rfl, by simpa [TM] using h⟩
  | [], _ :: _, _, _, _, _, _, _, _, _, _, _, _, _, h => by simp [TM] at h
  | _ :: _, [], _, _, _, _, _, _, _, _, _, _, _, _, h => by simp [TM] at h
  | t :: l, t' :: l', [], _, _, _, _, _, hl, _, _, _, _, _, _ => by simp at hl
  | t :: l, t' :: l', _ :: _, [], _, _, _, _, _, hl, _, _, _, _, _ => by simp at hl
  | t :: l, t' :: l', z :: ks, z' :: ks', d, d', x, y, hl, hl', oa, ob, ha, hb, h => by
    simp only [formL] at ha hb
    simp only [TM, List.headD_cons, List.tail_cons, List.cons_append, List.cons.injEq, true_and, List.append_assoc] at h
    obtain ⟨h1, h2⟩ := span_inj (P := letter) (letter_of (oa z (by simp))) (letter_of (ob z' (by simp))) (stop_letter 58 (by decide) _) (stop_letter 58 (by decide) _) h
    have h2 := (List.cons.inj h2).2
    obtain ⟨rfl, h3⟩ := textT_inj t ha.1 hb.1 (TM_stop ks l x) (TM_stop ks' l' y) h2
    obtain ⟨rfl, rfl, h4⟩ := mapT_inj l (by simpa using hl) (by simpa using hl') (fun s hs => oa s (List.mem_cons_of_mem _ hs)) (fun s hs => ob s (List.mem_cons_of_mem _ hs)) ha.2 hb.2 h3
    rw [tL_inj h1]
    exact ⟨rfl, rfl, h4⟩
end
end Go.Proofs.Pw
/- Texts of filters tell what they are texts of. -/
namespace Go.Proofs.Pw
def stopsF : List UInt8 → Prop
  | [] => True
  | b :: _ => b = 32
theorem stopsF_V {x : List UInt8} (h : stopsF x) : stopsV x := by
  cases x with
  | nil => trivial
  | cons b x => exact .inr (.inr (.inr h))
theorem w_letters : ∀ i : Fin 22, 6 ≤ i.val → i.val ≤ 20 → ∀ c ∈ tL (wtab.getD i.val ⟨#[]⟩), 97 ≤ c.toNat ∧ c.toNat ≤ 122 := by decide
theorem w_inj : ∀ i j : Fin 22, 6 ≤ i.val → i.val ≤ 20 → 6 ≤ j.val → j.val ≤ 20 → tL (wtab.getD i.val ⟨#[]⟩) = tL (wtab.getD j.val ⟨#[]⟩) → i = j := by decide
theorem w_ne : ∀ i : Fin 22, 6 ≤ i.val → i.val ≤ 20 → tL (wtab.getD i.val ⟨#[]⟩) ≠ [] := by decide
def hdOkF (k n : Int) (s : ByteArray) (v : T) : Prop := 1 ≤ k ∧ k ≤ 21 ∧ cleanF k n s v ∧ okS s ∧ okT v
theorem kidsOf_rng {k : Int} (h : 0 ≤ kidsOf k) : 1 ≤ k ∧ k ≤ 21 := by
  unfold kidsOf at h
  split at h
  · omega
  split at h
  · omega
  split at h
  · omega
  split at h
  · omega
  · omega
theorem hdOkF_of {k n : Int} {s : ByteArray} {v : T} {l : List F} {d : Int} (h : formF (.mk k n s v l) d) : hdOkF k n s v := by
  simp only [formF] at h
  obtain ⟨_, h2, h3, h4, _, _, h7, _⟩ := h
  have := kidsOf_rng (k := k) (by omega)
  exact ⟨this.1, this.2, h3, h4, h7⟩
/-- The heads whose first byte is a letter. -/
def wordB (k : Int) (s : ByteArray) : List UInt8 := if k = 21 then [109, 97, 107, 101, 58] ++ tL s else tL (wtab.getD k.toNat ⟨#[]⟩)
theorem head_two (n : Int) (s : ByteArray) (v : T) : tL (headB 2 n s v) = 61 :: tL (textT v) := by
  unfold headB; rw [if_pos rfl, tL_app]; rfl
theorem head_three (n : Int) (s : ByteArray) (v : T) : tL (headB 3 n s v) = 46 :: (tL s ++ [58]) := by
  unfold headB; rw [if_neg (by omega), if_pos rfl, tL_app, tL_app]; rfl
theorem head_four (n : Int) (s : ByteArray) (v : T) : tL (headB 4 n s v) = 91 :: (Lib.itoa n ++ [93]) := by
  unfold headB; rw [if_neg (by omega), if_neg (by omega), if_pos rfl, tL_app, tL_app, tL_itoa]; rfl
theorem head_one (n : Int) (s : ByteArray) (v : T) : tL (headB 1 n s v) = [46] := rfl
theorem head_five (n : Int) (s : ByteArray) (v : T) : tL (headB 5 n s v) = [91, 93] := rfl
theorem head_word {k : Int} (n : Int) (s : ByteArray) (v : T) (h : 6 ≤ k) : tL (headB k n s v) = wordB k s := by
  unfold headB wordB
  rw [if_neg (by omega), if_neg (by omega), if_neg (by omega)]
  split
  · rw [tL_app]; rfl
  · rfl
def lw (c : UInt8) : Prop := letter c ∨ c = 58
theorem word_chr {k : Int} {s : ByteArray} (h : 6 ≤ k ∧ k ≤ 21) (hs : okS s) : ∀ c ∈ wordB k s, lw c := by
  intro c hc
  unfold wordB at hc
  split at hc
  · rcases List.mem_append.1 hc with hc | hc
    · simp only [List.mem_cons, List.not_mem_nil, or_false] at hc
      rcases hc with rfl | rfl | rfl | rfl | rfl
      · exact .inl (by unfold letter; decide)
      · exact .inl (by unfold letter; decide)
      · exact .inl (by unfold letter; decide)
      · exact .inl (by unfold letter; decide)
      · exact .inr rfl
    · exact .inl (letter_of hs c hc)
  · exact .inl (w_letters ⟨k.toNat, by omega⟩ (by show 6 ≤ k.toNat; omega) (by show k.toNat ≤ 20; omega) c hc)
theorem word_first {k : Int} {s : ByteArray} (h : 6 ≤ k ∧ k ≤ 21) : ∃ c r, wordB k s = c :: r ∧ letter c := by
  unfold wordB
  split
  · exact ⟨109, _, rfl, by unfold letter; decide⟩
  · have h1 : 6 ≤ k.toNat := by omega
    have h2 : k.toNat ≤ 20 := by omega
    obtain ⟨c, r, e⟩ := List.exists_cons_of_ne_nil (w_ne ⟨k.toNat, by omega⟩ h1 h2)
    exact ⟨c, r, e, w_letters ⟨k.toNat, by omega⟩ h1 h2 c (by rw [e]; simp)⟩
theorem word_inj {k k' : Int} {s s' : ByteArray} (h : 6 ≤ k ∧ k ≤ 21) (h' : 6 ≤ k' ∧ k' ≤ 21) (e : wordB k s = wordB k' s') : k = k' ∧ (k = 21 → s = s') := by
  have no58 : ∀ {k : Int}, 6 ≤ k ∧ k ≤ 21 → k ≠ 21 → (58 : UInt8) ∉ tL (wtab.getD k.toNat ⟨#[]⟩) := fun {k} h hk hm => by
    have := w_letters ⟨k.toNat, by omega⟩ (by show 6 ≤ k.toNat; omega) (by show k.toNat ≤ 20; omega) 58 hm
    revert this; decide
  unfold wordB at e
  split at e <;> split at e
  · rename_i c c'
    exact ⟨c.trans c'.symm, fun _ => tL_inj (List.append_cancel_left e)⟩
  · rename_i c c'
    exact absurd (by rw [← e]; simp) (no58 h' c')
  · rename_i c c'
    exact absurd (by rw [e]; simp) (no58 h c)
  · have := congrArg Fin.val (w_inj ⟨k.toNat, by omega⟩ ⟨k'.toNat, by omega⟩ (by show 6 ≤ k.toNat; omega) (by show k.toNat ≤ 20; omega) (by show 6 ≤ k'.toNat; omega) (by show k'.toNat ≤ 20; omega) e)
    simp only at this
    exact ⟨by omega, fun c => absurd c (by assumption)⟩
def clsF (k : Int) : Int := if k = 2 then 61 else if k = 1 ∨ k = 3 then 46 else if k = 4 ∨ k = 5 then 91 else 0
theorem head_first {k n : Int} {s : ByteArray} {v : T} (h : hdOkF k n s v) : ∃ c r, tL (headB k n s v) = c :: r ∧ (if c = 61 then (61 : Int) else if c = 46 then 46 else if c = 91 then 91 else 0) = clsF k := by
  obtain ⟨h1, h2, _⟩ := h
  by_cases c1 : k = 1
  · subst c1; exact ⟨_, _, head_one n s v, rfl⟩
  by_cases c2 : k = 2
  · subst c2; exact ⟨_, _, head_two n s v, rfl⟩
  by_cases c3 : k = 3
  · subst c3; exact ⟨_, _, head_three n s v, rfl⟩
  by_cases c4 : k = 4
  · subst c4; exact ⟨_, _, head_four n s v, rfl⟩
  by_cases c5 : k = 5
  · subst c5; exact ⟨_, _, head_five n s v, rfl⟩
  obtain ⟨c, r, e, hl⟩ := word_first (k := k) (s := s) ⟨by omega, h2⟩
  refine ⟨c, r, by rw [head_word n s v (by omega)]; exact e, ?_⟩
  have hne : ∀ m : UInt8, m.toNat < 97 → c ≠ m := fun m hm e => by unfold letter at hl; rw [e] at hl; omega
  rw [if_neg (hne 61 (by decide)), if_neg (hne 46 (by decide)), if_neg (hne 91 (by decide))]
  unfold clsF
  rw [if_neg c2, if_neg (by omega), if_neg (by omega)]
theorem head_inj {k n k' n' : Int} {s s' : ByteArray} {v v' : T} {x y : List UInt8} (ha : hdOkF k n s v) (hb : hdOkF k' n' s' v') (hx : stopsF x) (hy : stopsF y) (h : tL (headB k n s v) ++ x = tL (headB k' n' s' v') ++ y) : (k = k' ∧ n = n' ∧ s = s' ∧ v = v') ∧ x = y := by
  have hcls : clsF k = clsF k' := by
    obtain ⟨c, r, e1, e2⟩ := head_first ha
    obtain ⟨c', r', e1', e2'⟩ := head_first hb
    rw [e1, e1'] at h
    simp only [List.cons_append, List.cons.injEq] at h
    rw [h.1] at e2
    exact e2.symm.trans e2'
  obtain ⟨a1, a2, ⟨a3, a4, a5⟩, a6, a7⟩ := ha
  obtain ⟨b1, b2, ⟨b3, b4, b5⟩, b6, b7⟩ := hb
  have same : k = k' → x = y → (k = 4 → n = n') → (k = 3 ∨ k = 21 → s = s') → (k = 2 → v = v') → (k = k' ∧ n = n' ∧ s = s' ∧ v = v') ∧ x = y := fun e exy en es ev => by
    subst e
    refine ⟨⟨rfl, ?_, ?_, ?_⟩, exy⟩
    · by_cases c : k = 4
      · exact en c
      · rw [a3.resolve_left c, b3.resolve_left c]
    · by_cases c : k = 3 ∨ k = 21
      · exact es c
      · rw [a4.resolve_left c, b4.resolve_left c]
    · by_cases c : k = 2
      · exact ev c
      · rw [a5.resolve_left c, b5.resolve_left c]
  have stopL : ∀ {z : List UInt8}, stopsF z → stops letter z := fun {z} hz => by
    cases z with
    | nil => trivial
    | cons b z => cases hz; exact not_letter (by decide)
  have stopW : ∀ {z : List UInt8}, stopsF z → stops lw z := fun {z} hz => by
    cases z with
    | nil => trivial
    | cons b z => cases hz; exact fun h => h.elim (not_letter (by decide)) (by decide)
  have hne58 : ∀ {z w : List UInt8}, stopsF z → z ≠ 58 :: w := fun {z w} hz e => by rw [e] at hz; revert hz; show ¬ ((58 : UInt8) = 32); decide
  have cases3 : ∀ {k : Int}, 1 ≤ k → k ≤ 21 → (k = 2 ∧ clsF k = 61) ∨ ((k = 1 ∨ k = 3) ∧ clsF k = 46) ∨ ((k = 4 ∨ k = 5) ∧ clsF k = 91) ∨ (6 ≤ k ∧ clsF k = 0) := fun {k} h1 h2 => by
    unfold clsF
    by_cases c2 : k = 2
    · exact .inl ⟨c2, if_pos c2⟩
    by_cases c3 : k = 1 ∨ k = 3
    · exact .inr (.inl ⟨c3, by rw [if_neg c2, if_pos c3]⟩)
    by_cases c4 : k = 4 ∨ k = 5
    · exact .inr (.inr (.inl ⟨c4, by rw [if_neg c2, if_neg c3, if_pos c4]⟩))
    · exact .inr (.inr (.inr ⟨by omega, by rw [if_neg c2, if_neg c3, if_neg c4]⟩))
  rcases cases3 a1 a2 with ⟨ck, e⟩ | ⟨ck, e⟩ | ⟨ck, e⟩ | ⟨ck, e⟩ <;> rcases cases3 b1 b2 with ⟨ck', e'⟩ | ⟨ck', e'⟩ | ⟨ck', e'⟩ | ⟨ck', e'⟩ <;> rw [e, e'] at hcls <;> first | (exact absurd hcls (by decide)) | skip
  · subst ck ck'
    rw [head_two, head_two] at h
    simp only [List.cons_append, List.cons.injEq, true_and] at h
    obtain ⟨h1, h2⟩ := textT_inj v a7.1 b7.1 (stopsF_V hx) (stopsF_V hy) h
    exact same rfl h2 (fun c => absurd c (by decide)) (fun c => absurd c (by decide)) (fun _ => h1)
  · rcases ck with ck | ck <;> rcases ck' with ck' | ck' <;> subst ck ck'
    · rw [head_one, head_one] at h
      exact same rfl (List.append_cancel_left h) (fun c => absurd c (by decide)) (fun c => absurd c (by decide)) (fun c => absurd c (by decide))
    · rw [head_one, head_three] at h
      simp only [List.cons_append, List.cons.injEq, true_and, List.nil_append, List.append_assoc] at h
      obtain ⟨h1, h2⟩ := span_inj (P := letter) (a := []) (by simp) (letter_of b6) (stopL hx) (stop_letter 58 (by decide) _) (by simpa using h)
      exact absurd h2 (hne58 hx)
    · rw [head_one, head_three] at h
      simp only [List.cons_append, List.cons.injEq, true_and, List.nil_append, List.append_assoc] at h
      obtain ⟨h1, h2⟩ := span_inj (P := letter) (b := []) (letter_of a6) (by simp) (stop_letter 58 (by decide) _) (stopL hy) (by simpa using h)
      exact absurd h2.symm (hne58 hy)
    · rw [head_three, head_three] at h
      simp only [List.cons_append, List.cons.injEq, true_and, List.nil_append, List.append_assoc] at h
      obtain ⟨h1, h2⟩ := span_inj (P := letter) (letter_of a6) (letter_of b6) (stop_letter 58 (by decide) _) (stop_letter 58 (by decide) _) h
      exact same rfl (List.cons.inj h2).2 (fun c => absurd c (by decide)) (fun _ => tL_inj h1) (fun c => absurd c (by decide))
  · have hno : ∀ (n : Int) (z w : List UInt8), Lib.itoa n ++ z ≠ 93 :: w := fun n z w e => by
      obtain ⟨c, r, e2⟩ := itoa_ne n
      have hc := itoa_chr n c (by rw [e2]; simp)
      rw [e2] at e
      simp only [List.cons_append, List.cons.injEq] at e
      rw [e.1] at hc
      revert hc; decide
    have hd : ∀ n : Int, ∀ c ∈ Lib.itoa n, c ≠ 93 := fun n c hc e => by
      have := itoa_chr n c hc
      rw [e] at this
      revert this; decide
    rcases ck with ck | ck <;> rcases ck' with ck' | ck' <;> subst ck ck'
    · rw [head_four, head_four] at h
      simp only [List.cons_append, List.cons.injEq, true_and, List.nil_append, List.append_assoc] at h
      obtain ⟨h1, h2⟩ := span_inj (P := fun c => c ≠ 93) (hd n) (hd n') (by simp [stops]) (by simp [stops]) h
      exact same rfl (List.cons.inj h2).2 (fun _ => itoa_inj h1) (fun c => absurd c (by decide)) (fun c => absurd c (by decide))
    · rw [head_four, head_five] at h
      simp only [List.cons_append, List.cons.injEq, true_and, List.nil_append, List.append_assoc] at h
      exact absurd h (hno n _ _)
    · rw [head_four, head_five] at h
      simp only [List.cons_append, List.cons.injEq, true_and, List.nil_append, List.append_assoc] at h
      exact absurd h.symm (hno n' _ _)
    · rw [head_five, head_five] at h
      exact same rfl (List.append_cancel_left h) (fun c => absurd c (by decide)) (fun c => absurd c (by decide)) (fun c => absurd c (by decide))
  · rw [head_word _ _ _ ck, head_word _ _ _ ck'] at h
    obtain ⟨h1, h2⟩ := span_inj (word_chr ⟨ck, a2⟩ a6) (word_chr ⟨ck', b2⟩ b6) (stopW hx) (stopW hy) h
    obtain ⟨h3, h4⟩ := word_inj ⟨ck, a2⟩ ⟨ck', b2⟩ h1
    exact same h3 h2 (fun c => by omega) (fun c => h4 (c.resolve_left (by omega))) (fun c => by omega)
theorem textFs_stop (l : List F) {x : List UInt8} (hx : stopsF x) : stopsF (tL (textFs l) ++ x) := by
  cases l with
  | nil => exact hx
  | cons t l =>
    simp only [textFs, tL_app]
    exact rfl
mutual
theorem textF_inj : ∀ (a : F) {b : F} {d d' : Int} {x y : List UInt8}, formF a d → formF b d' → stopsF x → stopsF y → tL (textF a) ++ x = tL (textF b) ++ y → a = b ∧ x = y
  | .mk k n s v l, .mk k' n' s' v' l', d, d', x, y, ha, hb, hx, hy, h => by
    have oa := hdOkF_of ha
    have ob := hdOkF_of hb
    simp only [textF, tL_app, List.append_assoc] at h
    obtain ⟨⟨rfl, rfl, rfl, rfl⟩, h1⟩ := head_inj oa ob (textFs_stop l hx) (textFs_stop l' hy) h
    simp only [formF] at ha hb
    obtain ⟨rfl, h2⟩ := textFs_inj l (by have := ha.2.1; have := hb.2.1; omega) ha.2.2.2.2.2.2.2.1 hb.2.2.2.2.2.2.2.1 hx hy h1
    exact ⟨rfl, h2⟩
theorem textFs_inj : ∀ (l : List F) {l' : List F} {d d' : Int} {x y : List UInt8}, l.length = l'.length → formFL l d → formFL l' d' → stopsF x → stopsF y → tL (textFs l) ++ x = tL (textFs l') ++ y → l = l' ∧ x = y
  | [], [], _, _, _, _, _, _, _, _, _, h => ⟨rfl, h⟩
  | [], _ :: _, _, _, _, _, hl, _, _, _, _, _ => by simp at hl
  | _ :: _, [], _, _, _, _, hl, _, _, _, _, _ => by simp at hl
  | t :: l, t' :: l', d, d', x, y, hl, ha, hb, hx, hy, h => by
    simp only [formFL] at ha hb
    simp only [textFs, tL_app, List.append_assoc] at h
    obtain ⟨rfl, h1⟩ := textF_inj t ha.1 hb.1 (textFs_stop l hx) (textFs_stop l' hy) (List.append_cancel_left h)
    obtain ⟨rfl, h2⟩ := textFs_inj l (by simpa using hl) ha.2 hb.2 hx hy h1
    exact ⟨rfl, h2⟩
end
theorem filtText_inj {a b : F} (ha : okF a) (hb : okF b) (h : filtText a = filtText b) : a = b := by
  unfold filtText at h
  rw [if_pos ha, if_pos hb] at h
  have h1 := congrArg tL h
  exact (textF_inj a (x := []) (y := []) ha.1 hb.1 trivial trivial (by rw [h1])).1
end Go.Proofs.Pw
