/- What is a tree that is ok, told of trees. -/
import Derived.Test.YtgpjodcopajlkaaDoorPwT9
import Derived.Test.YtgpjodcopajlkaaDoorProg
import Derived.KernelRfl
set_option linter.unusedSimpArgs false
set_option linter.unusedVariables false
set_option linter.unusedSectionVars false
set_option maxRecDepth 20000
namespace Go.Proofs.Pw
def letter (x : UInt8) : Prop := 97 <= x.toNat /\ x.toNat <= 122
def okS (s : ByteArray) : Prop := (∀ x ∈ s.data.toList, letter x) /\ s.size <= 12
noncomputable instance (s : ByteArray) : Decidable (okS s) := Classical.propDecidable _
theorem byteAt_get {s : ByteArray} {i : Nat} (h : i < s.size) : ∃ x, s.data.toList[i]? = some x /\ byteAt s i = (x.toNat : Int) /\ x ∈ s.data.toList := by
 have h' : i < s.data.toList.length := by simpa using h
 refine ⟨s.data.toList[i], by simp, ?_, List.getElem_mem h'⟩
 unfold byteAt
 rw [List.getD_eq_getElem?_getD, List.getElem?_eq_getElem h']; rfl
theorem bl_tri : ∀ (x y : List UInt8), (¬ (Op.bytesLess x y = true \/ x = y)) ↔ Op.bytesLess y x = true := by
 intro x
 induction x with
 | nil => intro y; cases y <;> simp [Op.bytesLess]
 | cons a x ih =>
   intro y
   cases y with
   | nil => simp [Op.bytesLess]
   | cons b y =>
     have := ih y
     simp only [Op.bytesLess, Bool.or_eq_true, decide_eq_true_eq, Bool.and_eq_true, beq_iff_eq, List.cons.injEq]
     have h1 : a < b ↔ a.toNat < b.toNat := UInt8.lt_iff_toNat_lt
     have h2 : b < a ↔ b.toNat < a.toNat := UInt8.lt_iff_toNat_lt
     have h3 : a = b ↔ a.toNat = b.toNat := UInt8.toNat_inj.symm
     rw [h1, h2, h3, eq_comm (a := b), h3]
     constructor
     ·intro h
      by_cases e : a.toNat = b.toNat
      ·exact .inr ⟨e, this.1 (fun k => h (k.elim (fun k => .inl (.inr ⟨e, k⟩)) (fun k => .inr ⟨e, k⟩)))⟩
      ·refine .inl ?_
       have : ¬ a.toNat < b.toNat := fun k => h (.inl (.inl k))
       omega
     ·rintro (h | ⟨e, h⟩) k
      ·rcases k with (k | ⟨k, _⟩) | ⟨k, _⟩ <;> omega
      ·refine this.2 h ?_
       rcases k with (k | ⟨_, k⟩) | ⟨_, k⟩
       ·omega
       ·exact .inl k
       ·exact .inr k
theorem ba_eq {a b : ByteArray} (h : a.toList = b.toList) : a = b := by
 rw [ByteArray.toList_eq, ByteArray.toList_eq] at h
 cases a; cases b; rename_i x y; cases x; cases y; simp_all
theorem sl_tri (a b : ByteArray) : (¬ (sl a b \/ a = b)) ↔ sl b a := by
 have := bl_tri a.toList b.toList
 unfold sl
 rw [<- this]
 constructor
 ·intro h k; exact h (k.imp id ba_eq)
 ·intro h k; exact h (k.imp id (fun e => by rw [e]))
def okKeysN (ks : List ByteArray) (n : Nat) : Prop := (∀ (j : Nat) k, j < n -> ks[j]? = some k -> okS k) /\ ∀ (j : Nat) a b, j + 1 < n -> ks[j]? = some a -> ks[j + 1]? = some b -> sl a b
def okKeys (ks : List ByteArray) : Prop := okKeysN ks ks.length
noncomputable instance (ks : List ByteArray) : Decidable (okKeys ks) := Classical.propDecidable _
theorem okKeysN_zero (ks : List ByteArray) : okKeysN ks 0 := ⟨fun _ _ h => by omega, fun _ _ _ h => by omega⟩
theorem okKeysN_succ {ks : List ByteArray} {n : Nat} {k : ByteArray} (h : okKeysN ks n) (hk : ks[n]? = some k) (h1 : okS k) (h2 : ∀ a, 0 < n -> ks[n - 1]? = some a -> sl a k) : okKeysN ks (n + 1) := by
 refine ⟨fun j x hj hx => ?_, fun j a b hj ha hb => ?_⟩
 ·by_cases e : j = n
  ·subst e; rw [hk] at hx; cases hx; exact h1
  ·exact h.1 j x (by omega) hx
 ·by_cases e : j + 1 = n
  ·subst e; rw [hk] at hb; cases hb; exact h2 a (by omega) (by simpa using ha)
  ·exact h.2 j a b (by omega) ha hb
theorem okKeys_at {ks : List ByteArray} {n : Nat} {k : ByteArray} (h : okKeys ks) (hk : ks[n]? = some k) : okS k := h.1 n k (List.getElem?_eq_some_iff.1 hk).1 hk
theorem okKeys_lt {ks : List ByteArray} {n : Nat} {a k : ByteArray} (h : okKeys ks) (hn : 0 < n) (ha : ks[n - 1]? = some a) (hk : ks[n]? = some k) : sl a k := by
 have := (List.getElem?_eq_some_iff.1 hk).1
 exact h.2 (n - 1) a k (by omega) ha (by rw [Nat.sub_add_cancel hn]; exact hk)
mutual
def formT : T -> Int -> Prop
 | .mk k n s ks l, d => 1 <= d /\ (k = 3 \/ n = 0) /\ (k = 4 \/ s = ⟨#[]⟩) /\ (k = 6 \/ ks = []) /\ (5 <= k \/ l = []) /\ 0 <= k /\ k <= 6 /\ -1000000 <= n /\ n <= 1000000 /\ okS s /\ (k = 6 -> ks.length = l.length /\ okKeys ks) /\ formL l (d - 1)
def formL : List T -> Int -> Prop
 | [], _ => True
 | t :: l, d => formT t d /\ formL l d
end
noncomputable instance (t : T) (d : Int) : Decidable (formT t d) := Classical.propDecidable _
theorem formL_mem {l : List T} {d : Int} : formL l d ↔ ∀ t ∈ l, formT t d := by
 induction l with
 | nil => simp [formL]
 | cons x l ih => simp [formL, ih]
theorem okS_nil : okS ⟨#[]⟩ := ⟨by simp, by decide⟩
mutual
def manyT : T -> Int -> Int
 | .mk _ _ _ _ l, d => 1 + manyL l d
def manyL : List T -> Int -> Int
 | [], _ => 0
 | t :: l, d => if 0 < d then manyT t (d - 1) + manyL l d else 0
end
mutual
def sizeT : T -> Int
 | .mk _ _ _ _ l => 1 + sizeL l
def sizeL : List T -> Int
 | [] => 0
 | t :: l => sizeT t + sizeL l
end
def okT (t : T) : Prop := formT t 6 /\ manyT t 6 <= 60
noncomputable instance (t : T) : Decidable (okT t) := Classical.propDecidable _
end Go.Proofs.Pw
namespace Go.Proofs.Pw
mutual
theorem manyT_le : ∀ (t : T) (d : Int), 0 <= manyT t d /\ manyT t d <= sizeT t
 | .mk k n s ks l, d => by
   have := manyL_le l d
   simp only [manyT, sizeT]; omega
theorem manyL_le : ∀ (l : List T) (d : Int), 0 <= manyL l d /\ manyL l d <= sizeL l
 | [], d => by simp [manyL, sizeL]
 | t :: l, d => by
   have h1 := manyT_le t (d - 1)
   have h2 := manyL_le l d
   simp only [manyL, sizeL]
   split <;> omega
end
theorem sizeL_at {l : List T} {i : Nat} {t : T} (h : l[i]? = some t) : sizeT t <= sizeL l := by
 induction l generalizing i with
 | nil => simp at h
 | cons x l ih =>
   have h2 := manyL_le l 0
   have h3 := manyT_le x 0
   cases i with
   | zero => simp at h; subst h; simp only [sizeL]; omega
   | succ i => have := ih (by simpa using h); simp only [sizeL]; omega
end Go.Proofs.Pw
namespace Go.Proofs.Pw
theorem formL_len {l : List T} {d : Int} (h : l.length = 0) : formL l d := by
 cases l with
 | nil => simp [formL]
 | cons _ _ => simp at h
end Go.Proofs.Pw
namespace Go.Proofs.Pw
def headOk (k n : Int) (s : ByteArray) (ks : List ByteArray) (l : List T) : Prop :=
 (k = 3 \/ n = 0) /\ (k = 4 \/ s = ⟨#[]⟩) /\ (k = 6 \/ ks.length = 0) /\ (5 <= k \/ l.length = 0) /\ 0 <= k /\ k <= 6 /\ -1000000 <= n /\ n <= 1000000 /\ okS s /\ (k = 6 -> ks.length = l.length) /\ okKeys ks
noncomputable instance (k n : Int) (s : ByteArray) (ks : List ByteArray) (l : List T) : Decidable (headOk k n s ks l) := Classical.propDecidable _
mutual
noncomputable def okI : T -> Int -> Int -> Bool × Int
 | .mk k n s ks l, d, left => if 1 <= left /\ d <= 6 /\ headOk k n s ks l then okIL l (d + 1) (left - 1) else (false, left - 1)
noncomputable def okIL : List T -> Int -> Int -> Bool × Int
 | [], _, left => (true, left)
 | t :: r, d, left => if (okI t d left).1 = true then okIL r d (okI t d left).2 else (false, (okI t d left).2)
end
mutual
theorem okI_le : ∀ (t : T) (d left : Int), (okI t d left).2 <= left /\ ((okI t d left).1 = true -> 0 <= (okI t d left).2)
 | .mk k n s ks l, d, left => by
   have := okIL_le l (d + 1) (left - 1)
   simp only [okI]
   split
   ·exact ⟨by omega, fun h => this.2 (by omega) h⟩
   ·exact ⟨by simp only; omega, fun h => by simp at h⟩
theorem okIL_le : ∀ (l : List T) (d left : Int), (okIL l d left).2 <= left /\ (0 <= left -> (okIL l d left).1 = true -> 0 <= (okIL l d left).2)
 | [], d, left => by simp [okIL]
 | t :: r, d, left => by
   have h1 := okI_le t d left
   have h2 := okIL_le r d (okI t d left).2
   simp only [okIL]
   split
   ·rename_i h; exact ⟨by omega, fun _ h' => h2.2 (h1.2 h) h'⟩
   ·rename_i h; exact ⟨h1.1, fun _ h' => by simp at h'⟩
end
end Go.Proofs.Pw
namespace Go.Proofs.Pw
def T.zero : T := .mk 0 0 ⟨#[]⟩ [] []
theorem T.zero_fit : T.zero.fit 140737488355328 := by simp [T.zero, T.fit, strsFit, lenB, i64, fitL]; decide
end Go.Proofs.Pw
namespace Go.Proofs.Pw
def kidsOf (k : Int) : Int :=
 if k = 1 \/ k = 2 \/ k = 3 \/ k = 4 \/ k = 5 \/ k = 13 \/ k = 14 \/ k = 15 \/ k = 18 \/ k = 19 then 0
 else if k = 12 \/ k = 17 \/ k = 21 then 1
 else if k = 6 \/ k = 7 \/ k = 9 \/ k = 10 \/ k = 11 \/ k = 16 \/ k = 20 then 2
 else if k = 8 then 3 else -1
mutual
def wayF : F -> Prop
 | .mk k _ _ _ l => (k = 1 \/ k = 3 \/ k = 4 \/ k = 5 \/ k = 18) \/ ((k = 6 \/ k = 7) /\ wayL l 0 /\ wayL l 1) \/ (k = 8 /\ wayL l 1 /\ wayL l 2)
def wayL : List F -> Nat -> Prop
 | [], _ => False
 | t :: _, 0 => wayF t
 | _ :: r, n + 1 => wayL r n
end
noncomputable instance (f : F) : Decidable (wayF f) := Classical.propDecidable _
mutual
def kindedF : F -> Prop
 | .mk k _ _ _ l => kidsOf k = l.length /\ kindedL l
def kindedL : List F -> Prop
 | [] => True
 | t :: l => kindedF t /\ kindedL l
end
def cleanF (k n : Int) (s : ByteArray) (v : T) : Prop := (k = 4 \/ n = 0) /\ ((k = 3 \/ k = 21) \/ s = ⟨#[]⟩) /\ (k = 2 \/ v = T.zero)
noncomputable instance (k n : Int) (s : ByteArray) (v : T) : Decidable (cleanF k n s v) := Classical.propDecidable _
mutual
def formF : F -> Int -> Prop
 | .mk k n s v l, d => 1 <= d /\ kidsOf k = l.length /\ cleanF k n s v /\ okS s /\ -60 <= n /\ n < 60 /\ okT v /\ formFL l (d - 1) /\ (k = 20 -> wayL l 0)
def formFL : List F -> Int -> Prop
 | [], _ => True
 | t :: l, d => formF t d /\ formFL l d
end
noncomputable instance (t : F) (d : Int) : Decidable (formF t d) := Classical.propDecidable _
mutual
theorem formF_kinded : ∀ {t : F} {d : Int}, formF t d -> kindedF t
 | .mk k n s v l, d, h => by
   simp only [formF] at h
   exact ⟨h.2.1, formFL_kinded h.2.2.2.2.2.2.2.1⟩
theorem formFL_kinded : ∀ {l : List F} {d : Int}, formFL l d -> kindedL l
 | [], _, _ => trivial
 | t :: l, d, h => by
   simp only [formFL] at h
   exact ⟨formF_kinded h.1, formFL_kinded h.2⟩
end
mutual
def manyF : F -> Int -> Int
 | .mk _ _ _ _ l, d => 1 + manyFL l d
def manyFL : List F -> Int -> Int
 | [], _ => 0
 | t :: l, d => if 0 < d then manyF t (d - 1) + manyFL l d else 0
end
mutual
def sizeF : F -> Int
 | .mk _ _ _ _ l => 1 + sizeFL l
def sizeFL : List F -> Int
 | [] => 0
 | t :: l => sizeF t + sizeFL l
end
def okF (t : F) : Prop := formF t 7 /\ manyF t 7 <= 16
noncomputable instance (t : F) : Decidable (okF t) := Classical.propDecidable _
mutual
def smallF : F -> Prop
 | .mk _ _ _ v l => sizeT v <= 1048577 /\ smallFL l
def smallFL : List F -> Prop
 | [] => True
 | t :: l => smallF t /\ smallFL l
end
mutual
theorem manyF_le : ∀ (t : F) (d : Int), 0 <= manyF t d /\ manyF t d <= sizeF t
 | .mk k n s v l, d => by
   have := manyFL_le l d
   simp only [manyF, sizeF]; omega
theorem manyFL_le : ∀ (l : List F) (d : Int), 0 <= manyFL l d /\ manyFL l d <= sizeFL l
 | [], d => by simp [manyFL, sizeFL]
 | t :: l, d => by
   have h1 := manyF_le t (d - 1)
   have h2 := manyFL_le l d
   simp only [manyFL, sizeFL]
   split <;> omega
end
end Go.Proofs.Pw
namespace Go.Proofs.Pw
def cleanQ : F -> Prop
 | .mk k n s v _ => cleanF k n s v
noncomputable instance (f : F) : Decidable (cleanQ f) := Classical.propDecidable _
end Go.Proofs.Pw
namespace Go.Proofs.Pw
def headF (k n : Int) (s : ByteArray) (v : T) (l : List F) : Prop :=
 1 <= k /\ k <= 21 /\ kidsOf k = l.length /\ cleanF k n s v /\ -60 <= n /\ n <= 59 /\ okS s /\ (okI v 1 60).1 = true
noncomputable instance (k n : Int) (s : ByteArray) (v : T) (l : List F) : Decidable (headF k n s v l) := Classical.propDecidable _
noncomputable instance (k : Int) (l : List F) : Decidable (k = 20 -> wayL l 0) := Classical.propDecidable _
mutual
noncomputable def okFI : F -> Int -> Int -> Bool × Int
 | .mk k n s v l, d, left => if 1 <= left /\ d <= 7 /\ headF k n s v l then (if (okFIL l (d + 1) (left - 1)).1 = true then (decide (k = 20 -> wayL l 0), (okFIL l (d + 1) (left - 1)).2) else (false, (okFIL l (d + 1) (left - 1)).2)) else (false, left - 1)
noncomputable def okFIL : List F -> Int -> Int -> Bool × Int
 | [], _, left => (true, left)
 | t :: r, d, left => if (okFI t d left).1 = true then okFIL r d (okFI t d left).2 else (false, (okFI t d left).2)
end
mutual
theorem okFI_le : ∀ (t : F) (d left : Int), (okFI t d left).2 <= left /\ ((okFI t d left).1 = true -> 0 <= (okFI t d left).2 /\ kindedF t)
 | .mk k n s v l, d, left => by
   have h := okFIL_le l (d + 1) (left - 1)
   simp only [okFI, kindedF]
   split
   ·rename_i hc
    split
    ·rename_i hr
     exact ⟨by simp only; omega, fun _ => ⟨(h.2 (by omega) hr).1, hc.2.2.2.2.1, (h.2 (by omega) hr).2⟩⟩
    ·exact ⟨by simp only; omega, fun h => by simp at h⟩
   ·exact ⟨by simp only; omega, fun h => by simp at h⟩
theorem okFIL_le : ∀ (l : List F) (d left : Int), (okFIL l d left).2 <= left /\ (0 <= left -> (okFIL l d left).1 = true -> 0 <= (okFIL l d left).2 /\ kindedL l)
 | [], d, left => by simp [okFIL, kindedL]
 | t :: r, d, left => by
   have h1 := okFI_le t d left
   have h2 := okFIL_le r d (okFI t d left).2
   simp only [okFIL, kindedL]
   split
   ·rename_i h; exact ⟨by omega, fun _ h' => ⟨(h2.2 (h1.2 h).1 h').1, (h1.2 h).2, (h2.2 (h1.2 h).1 h').2⟩⟩
   ·rename_i h; exact ⟨h1.1, fun _ h' => by simp at h'⟩
end
end Go.Proofs.Pw
namespace Go.Proofs.Pw
def okTk (t : Tk) : Prop := okT t.v /\ t.todo.length <= 40 /\ ∀ f ∈ t.todo, okF f
def okGn (g : Gn) : Prop := 0 <= g.fuel /\ g.fuel <= 400 /\ 0 <= g.code /\ g.code <= 3 /\ (g.code = 0 \/ g.tasks.length = 0) /\ g.tasks.length <= 2000 /\ ∀ t ∈ g.tasks, okTk t
noncomputable instance (g : Gn) : Decidable (okGn g) := Classical.propDecidable _
def okTkI (t : Tk) : Prop := (okI t.v 1 60).1 = true /\ t.todo.length <= 40 /\ ∀ f ∈ t.todo, (okFI f 1 16).1 = true
def okGnI (g : Gn) : Prop := 0 <= g.fuel /\ g.fuel <= 400 /\ 0 <= g.code /\ g.code <= 3 /\ (g.code = 0 \/ g.tasks.length = 0) /\ g.tasks.length <= 2000 /\ ∀ t ∈ g.tasks, okTkI t
noncomputable instance (g : Gn) : Decidable (okGnI g) := Classical.propDecidable _
mutual
theorem okI_form : ∀ (t : T) (d left : Int), 0 <= d -> (okI t d left).1 = true -> formT t (7 - d) /\ (okI t d left).2 = left - sizeT t
 | .mk k n s ks l, d, left, hd, h => by
   simp only [okI] at h ⊢
   split at h
   ·rename_i hc
    rw [if_pos hc]
    obtain ⟨h1, h2, h3, h4, h5, h6, h7, h8, h9, h10, h11, h12, h13⟩ := hc
    have := okIL_form l (d + 1) (left - 1) (by omega) h
    simp only [formT, sizeT]
    refine ⟨⟨by omega, h3, h4, h5.imp id (fun h => List.eq_nil_of_length_eq_zero h), h6.imp id (fun h => List.eq_nil_of_length_eq_zero h), h7, h8, h9, h10, h11, fun hk => ⟨h12 hk, h13⟩, ?_⟩, by omega⟩
    rw [show 7 - d - 1 = 7 - (d + 1) by omega]; exact this.1
   ·cases h
theorem okIL_form : ∀ (l : List T) (d left : Int), 0 <= d -> (okIL l d left).1 = true -> formL l (7 - d) /\ (okIL l d left).2 = left - sizeL l
 | [], d, left, _, _ => by simp [okIL, formL, sizeL]
 | t :: r, d, left, hd, h => by
   simp only [okIL] at h ⊢
   split at h
   ·rename_i hc
    rw [if_pos hc]
    have h1 := okI_form t d left hd hc
    have h2 := okIL_form r d _ hd h
    simp only [formL, sizeL]
    exact ⟨⟨h1.1, h2.1⟩, by omega⟩
   ·cases h
end
end Go.Proofs.Pw
namespace Go.Proofs.Pw
mutual
theorem form_okI : ∀ (t : T) (d left : Int), 0 <= d -> formT t (7 - d) -> sizeT t <= left -> (okI t d left).1 = true /\ (okI t d left).2 = left - sizeT t
 | .mk k n s ks l, d, left, hd, h, hs => by
   simp only [formT, sizeT] at h hs
   obtain ⟨h1, h2, h3, h4, h5, h6, h7, h8, h9, h10, h11, h12⟩ := h
   have hz := (manyL_le l 0)
   have hk : okKeys ks := by
    rcases h4 with h4 | h4
    ·exact (h11 h4).2
    ·subst h4; exact okKeysN_zero []
   have hc : 1 <= left /\ d <= 6 /\ headOk k n s ks l := ⟨by omega, by omega, h2, h3, h4.imp id (fun h => by rw [h]; rfl), h5.imp id (fun h => by rw [h]; rfl), h6, h7, h8, h9, h10, fun h => (h11 h).1, hk⟩
   have := form_okIL l (d + 1) (left - 1) (by omega) (by rw [show 7 - (d + 1) = 7 - d - 1 by omega]; exact h12) (by omega)
   simp only [okI, sizeT]
   rw [if_pos hc]
   exact ⟨this.1, by omega⟩
theorem form_okIL : ∀ (l : List T) (d left : Int), 0 <= d -> formL l (7 - d) -> sizeL l <= left -> (okIL l d left).1 = true /\ (okIL l d left).2 = left - sizeL l
 | [], d, left, _, _, _ => by simp [okIL, sizeL]
 | t :: r, d, left, hd, h, hs => by
   simp only [formL, sizeL] at h hs
   have hz := (manyL_le r 0)
   have h1 := form_okI t d left hd h.1 (by omega)
   have h2 := form_okIL r d (okI t d left).2 hd h.2 (by omega)
   simp only [okIL, sizeL]
   rw [if_pos h1.1]
   exact ⟨h2.1, by omega⟩
end
mutual
theorem many_size : ∀ (t : T) (d : Int), formT t d -> manyT t d = sizeT t
 | .mk k n s ks l, d, h => by
   simp only [formT] at h
   simp only [manyT, sizeT]
   have := manyL_size l d h.2.2.2.2.2.2.2.2.2.2.2
   omega
theorem manyL_size : ∀ (l : List T) (d : Int), formL l (d - 1) -> manyL l d = sizeL l
 | [], d, _ => by simp [manyL, sizeL]
 | t :: l, d, h => by
   simp only [formL] at h
   have h1 := many_size t (d - 1) h.1
   have h2 := manyL_size l d h.2
   have h3 : 0 < d := by
    cases t with
    | mk k n s ks r => have := h.1; simp only [formT] at this; omega
   simp only [manyL, sizeL]
   rw [if_pos h3]; omega
end
theorem okI_iff (t : T) : (okI t 1 60).1 = true ↔ okT t := by
 constructor
 ·intro h
  have h1 := okI_form t 1 60 (by omega) h
  have h2 := okI_le t 1 60
  have h3 := many_size t 6 h1.1
  refine ⟨h1.1, ?_⟩
  have := h2.2 h
  omega
 ·rintro ⟨h1, h2⟩
  have h3 := many_size t 6 h1
  exact (form_okI t 1 60 (by omega) h1 (by omega)).1
end Go.Proofs.Pw
namespace Go.Proofs.Pw
mutual
theorem okFI_form : ∀ (t : F) (d left : Int), 0 <= d -> (okFI t d left).1 = true -> formF t (8 - d) /\ (okFI t d left).2 = left - sizeF t
 | .mk k n s v l, d, left, hd, h => by
   simp only [okFI] at h ⊢
   split at h
   ·rename_i hc
    rw [if_pos hc]
    split at h
    ·rename_i hr
     rw [if_pos hr]
     obtain ⟨h1, h2, h3, h4, h5, h6, h7, h8, h9, h10⟩ := hc
     have := okFIL_form l (d + 1) (left - 1) (by omega) hr
     simp only [formF, sizeF]
     refine ⟨⟨by omega, h5, h6, h9, h7, by omega, (okI_iff v).1 h10, ?_, by simpa using h⟩, by omega⟩
     rw [show 8 - d - 1 = 8 - (d + 1) by omega]; exact this.1
    ·cases h
   ·cases h
theorem okFIL_form : ∀ (l : List F) (d left : Int), 0 <= d -> (okFIL l d left).1 = true -> formFL l (8 - d) /\ (okFIL l d left).2 = left - sizeFL l
 | [], d, left, _, _ => by simp [okFIL, formFL, sizeFL]
 | t :: r, d, left, hd, h => by
   simp only [okFIL] at h ⊢
   split at h
   ·rename_i hc
    rw [if_pos hc]
    have h1 := okFI_form t d left hd hc
    have h2 := okFIL_form r d _ hd h
    simp only [formFL, sizeFL]
    exact ⟨⟨h1.1, h2.1⟩, by omega⟩
   ·cases h
end
theorem kidsOf_range {k : Int} (h : 0 <= kidsOf k) : 1 <= k /\ k <= 21 := by
 unfold kidsOf at h
 split at h
 ·omega
 ·split at h
  ·omega
  ·split at h
   ·omega
   ·split at h <;> omega
mutual
theorem form_okFI : ∀ (t : F) (d left : Int), 0 <= d -> formF t (8 - d) -> sizeF t <= left -> (okFI t d left).1 = true /\ (okFI t d left).2 = left - sizeF t
 | .mk k n s v l, d, left, hd, h, hs => by
   simp only [formF, sizeF] at h hs
   obtain ⟨h1, h2, h3, h4, h5, h6, h7, h8, h9⟩ := h
   have hz := (manyFL_le l 0)
   have hk := kidsOf_range (k := k) (by omega)
   have hc : 1 <= left /\ d <= 7 /\ headF k n s v l := ⟨by omega, by omega, hk.1, hk.2, h2, h3, h5, by omega, h4, (okI_iff v).2 h7⟩
   have := form_okFIL l (d + 1) (left - 1) (by omega) (by rw [show 8 - (d + 1) = 8 - d - 1 by omega]; exact h8) (by omega)
   simp only [okFI, sizeF]
   rw [if_pos hc, if_pos this.1]
   exact ⟨by simpa using h9, by simp only; omega⟩
theorem form_okFIL : ∀ (l : List F) (d left : Int), 0 <= d -> formFL l (8 - d) -> sizeFL l <= left -> (okFIL l d left).1 = true /\ (okFIL l d left).2 = left - sizeFL l
 | [], d, left, _, _, _ => by simp [okFIL, sizeFL]
 | t :: r, d, left, hd, h, hs => by
   simp only [formFL, sizeFL] at h hs
   have hz := (manyFL_le r 0)
   have h1 := form_okFI t d left hd h.1 (by omega)
   have h2 := form_okFIL r d (okFI t d left).2 hd h.2 (by omega)
   simp only [okFIL, sizeFL]
   rw [if_pos h1.1]
   exact ⟨h2.1, by omega⟩
end
mutual
theorem manyF_size : ∀ (t : F) (d : Int), formF t d -> manyF t d = sizeF t
 | .mk k n s v l, d, h => by
   simp only [formF] at h
   simp only [manyF, sizeF]
   have := manyFL_size l d h.2.2.2.2.2.2.2.1
   omega
theorem manyFL_size : ∀ (l : List F) (d : Int), formFL l (d - 1) -> manyFL l d = sizeFL l
 | [], d, _ => by simp [manyFL, sizeFL]
 | t :: l, d, h => by
   simp only [formFL] at h
   have h1 := manyF_size t (d - 1) h.1
   have h2 := manyFL_size l d h.2
   have h3 : 0 < d := by
    cases t with
    | mk k n s v r => have := h.1; simp only [formF] at this; omega
   simp only [manyFL, sizeFL]
   rw [if_pos h3]; omega
end
end Go.Proofs.Pw
namespace Go.Proofs.Pw
theorem szStr_fit : ∀ {ks : List ByteArray} {left : Int}, 0 <= left -> 0 <= szStr ks left -> ∀ s ∈ ks, (s.size : Int) <= left := by
 intro ks
 induction ks with
 | nil => intro left _ _ s hs; simp at hs
 | cons x r ih =>
   intro left h0 h s hs
   simp only [szStr] at h
   split at h
   ·omega
   ·rcases List.mem_cons.1 hs with rfl | hs
    ·omega
    ·have := ih (left := left - x.size) (by omega) h s hs; omega
theorem szStrS_fit {ks : List ByteArray} {left : Int} (h0 : 0 <= left) (hl : left <= 1048576) (h : 0 <= szStrS ks left) : strsFit 1048576 ks := by
 simp only [szStrS] at h
 split at h
 ·omega
 ·refine ⟨by unfold lenB; omega, fun s hs => ?_⟩
  have := szStr_fit (left := left - ks.length) (by omega) h s hs
  unfold lenB; omega
mutual
theorem szT_fit : ∀ {t : T} {left : Int} {B : Int}, 0 <= left -> left <= 1048576 -> t.fit B -> 0 <= szT t left -> t.fit 1048576 /\ sizeT t <= left - szT t left + 1
 | .mk k n s ks l, left, B, h0, hl, hf, h => by
   simp only [T.fit] at hf ⊢
   simp only [szT, sizeT] at h ⊢
   have e1 := szStrS_le (ks := ks) (left := left - s.size)
   split at h
   ·omega
   ·split at h
    ·omega
    ·split at h
     ·omega
     ·rename_i a b c
      rw [if_neg a, if_neg b, if_neg c]
      have h1 := szStrS_fit (ks := ks) (left := left - s.size) (by omega) (by omega) (by omega)
      have h2 := szTL_fit (l := l) (B := B) (left := szStrS ks (left - s.size) - l.length) (by omega) (by omega) hf.2.2.2.2.2 h
      refine ⟨⟨hf.1, hf.2.1, by unfold lenB; omega, h1, by unfold lenB; omega, h2.1⟩, by omega⟩
theorem szTL_fit : ∀ {l : List T} {left : Int} {B : Int}, 0 <= left -> left <= 1048576 -> fitL B l -> 0 <= szTL l left -> fitL 1048576 l /\ sizeL l <= left - szTL l left + l.length
 | [], left, B, h0, hl, hf, h => by simp [fitL, sizeL, szTL]
 | t :: r, left, B, h0, hl, hf, h => by
   simp only [fitL] at hf ⊢
   simp only [szTL, sizeL, List.length_cons] at h ⊢
   have e1 := szT_le (t := t) h0
   split at h
   ·omega
   ·rename_i a
    rw [if_neg a]
    have h1 := szT_fit (t := t) h0 hl hf.1 (by omega)
    have h2 := szTL_fit (l := r) (left := szT t left) (by omega) (by omega) hf.2 h
    exact ⟨⟨h1.1, h2.1⟩, by omega⟩
end
end Go.Proofs.Pw
namespace Go.Proofs.Pw
mutual
theorem szF_fit : ∀ {t : F} {left : Int} {B : Int}, 0 <= left -> left <= 1048576 -> t.fit B -> 0 <= szF t left -> t.fit 1048576 /\ smallF t /\ sizeF t <= left - szF t left + 1
 | .mk k n s v l, left, B, h0, hl, hf, h => by
   simp only [F.fit] at hf ⊢
   simp only [szF, sizeF, smallF] at h ⊢
   have e1 := szT_le (t := v) (left := left - s.size)
   split at h
   ·omega
   ·split at h
    ·omega
    ·split at h
     ·omega
     ·rename_i a b c
      rw [if_neg a, if_neg b, if_neg c]
      have h1 := szT_fit (t := v) (B := B) (left := left - s.size) (by omega) (by omega) hf.2.2.2.1 (by omega)
      have h2 := szFL_fit (l := l) (B := B) (left := szT v (left - s.size) - l.length) (by omega) (by omega) hf.2.2.2.2.2 h
      refine ⟨⟨hf.1, hf.2.1, by unfold lenB; omega, h1.1, by unfold lenB; omega, h2.1⟩, ⟨by omega, h2.2.1⟩, by omega⟩
theorem szFL_fit : ∀ {l : List F} {left : Int} {B : Int}, 0 <= left -> left <= 1048576 -> fitF B l -> 0 <= szFL l left -> fitF 1048576 l /\ smallFL l /\ sizeFL l <= left - szFL l left + l.length
 | [], left, B, h0, hl, hf, h => by simp [fitF, sizeFL, szFL, smallFL]
 | t :: r, left, B, h0, hl, hf, h => by
   simp only [fitF] at hf ⊢
   simp only [szFL, sizeFL, smallFL, List.length_cons] at h ⊢
   have e1 := szF_le (t := t) h0
   split at h
   ·omega
   ·rename_i a
    rw [if_neg a]
    have h1 := szF_fit (t := t) h0 hl hf.1 (by omega)
    have h2 := szFL_fit (l := r) (left := szF t left) (by omega) (by omega) hf.2 h
    exact ⟨⟨h1.1, h2.1⟩, ⟨h1.2.1, h2.2.1⟩, by omega⟩
end
end Go.Proofs.Pw
namespace Go.Proofs.Pw
end Go.Proofs.Pw
namespace Go.Proofs.Pw
section
variable {B B' : Int} (hB : B <= B')
include hB
theorem lenB_le {n : Nat} (h : lenB B n) : lenB B' n := by unfold lenB at *; omega
theorem strsFit_le {ks : List ByteArray} (h : strsFit B ks) : strsFit B' ks := ⟨lenB_le hB h.1, fun s hs => lenB_le hB (h.2 s hs)⟩
mutual
theorem T.fit_le : ∀ {t : T}, t.fit B -> t.fit B'
 | .mk k n s ks l, h => by
   simp only [T.fit] at h ⊢
   exact ⟨h.1, h.2.1, lenB_le hB h.2.2.1, strsFit_le hB h.2.2.2.1, lenB_le hB h.2.2.2.2.1, fitL_le h.2.2.2.2.2⟩
theorem fitL_le : ∀ {l : List T}, fitL B l -> fitL B' l
 | [], _ => trivial
 | t :: l, h => by
   simp only [fitL] at h ⊢
   exact ⟨T.fit_le h.1, fitL_le h.2⟩
end
mutual
theorem F.fit_le : ∀ {t : F}, t.fit B -> t.fit B'
 | .mk k n s v l, h => by
   simp only [F.fit] at h ⊢
   exact ⟨h.1, h.2.1, lenB_le hB h.2.2.1, T.fit_le hB h.2.2.2.1, lenB_le hB h.2.2.2.2.1, fitF_le h.2.2.2.2.2⟩
theorem fitF_le : ∀ {l : List F}, fitF B l -> fitF B' l
 | [], _ => trivial
 | t :: l, h => by
   simp only [fitF] at h ⊢
   exact ⟨F.fit_le h.1, fitF_le h.2⟩
end
theorem Tk.fit_le {t : Tk} (h : t.fit B) : t.fit B' := ⟨T.fit_le hB h.1, lenB_le hB h.2.1, fitF_le hB h.2.2⟩
theorem Gn.fit_le {g : Gn} (h : g.fit B) : g.fit B' := ⟨lenB_le hB h.1, fun t ht => Tk.fit_le hB (h.2.1 t ht), h.2.2⟩
end
end Go.Proofs.Pw
namespace Go.Proofs.Pw
variable [Globs]
end Go.Proofs.Pw
namespace Go.Proofs.Pw
variable [Globs]
def x_eqStringS : X := (.seq (.reg [⟨some 4, none, .mv (.k (.c (.bool false)))⟩] none [0, 1]) (.seq (.seq (.reg [⟨some 6, none, .mv (.t 0)⟩, ⟨some 7, none, .len (.t 6) false⟩, ⟨some 8, none, .mv (.t 1)⟩, ⟨some 9, none, .len (.t 8) false⟩, ⟨some 10, none, .bin false .neq (.t 7) (.t 9)⟩] none [0, 1, 10]) (.cond (.t 10) (.seq (.reg [⟨some 4, none, .mv (.k (.c (.bool false)))⟩] none [4]) .ret) .skip)) (.seq (.seq (.reg [⟨some 5, none, .mv (.k (.c (.int .i64 0)))⟩] none [0, 1, 5]) (.block 0 (.loop (.seq (.seq (.reg [⟨some 11, none, .mv (.t 5)⟩, ⟨some 12, none, .mv (.t 0)⟩, ⟨some 13, none, .len (.t 12) false⟩, ⟨some 14, none, .bin false .lss (.t 11) (.t 13)⟩] none [0, 1, 5, 14]) (.cond (.t 14) .skip (.exit 0))) (.seq (.block 1 (.seq (.reg [⟨some 17, none, .mv (.t 0)⟩, ⟨some 18, none, .mv (.t 5)⟩, ⟨some 19, none, .ia (.t 17) (.t 18) 1⟩, ⟨some 20, none, .load (.t 19) none⟩, ⟨some 21, none, .mv (.t 1)⟩, ⟨some 22, none, .mv (.t 5)⟩, ⟨some 23, none, .ia (.t 21) (.t 22) 1⟩, ⟨some 24, none, .load (.t 23) none⟩, ⟨some 25, none, .bin false .neq (.t 20) (.t 24)⟩] (some 8) [0, 1, 5, 25]) (.cond (.t 25) (.seq (.reg [⟨some 4, none, .mv (.k (.c (.bool false)))⟩] none [4]) .ret) .skip))) (.reg [⟨some 15, none, .mv (.t 5)⟩, ⟨some 16, none, .bin false .add (.t 15) (.k (.c (.int .i64 1)))⟩, ⟨some 5, none, .mv (.t 16)⟩] none [0, 1, 5])))))) (.seq (.reg [⟨some 4, none, .mv (.k (.c (.bool true)))⟩] none [4]) .ret))))
theorem chk_eqStringS : chkX Tryd.prog 26 (Tryd.f42.body.getD .skip) x_eqStringS = true := by kernel_rfl
theorem rs_eqStringS : okRs Tryd.prog Tryd.f42.results.toList [.tmp 4] = true := by kernel_rfl
theorem call_eqStringS : okCallee Tryd.prog 42 = true := by kernel_rfl
def x_eqValS : X := (.seq (.reg [⟨some 4, none, .mv (.k (.c (.bool false)))⟩] none [0, 1]) (.seq (.seq (.reg [⟨some 6, none, .mv (.t 0)⟩, ⟨some 7, none, .len (.t 6) false⟩, ⟨some 8, none, .mv (.t 1)⟩, ⟨some 9, none, .len (.t 8) false⟩, ⟨some 10, none, .bin false .neq (.t 7) (.t 9)⟩] none [0, 1, 10]) (.cond (.t 10) (.seq (.reg [⟨some 4, none, .mv (.k (.c (.bool false)))⟩] none [4]) .ret) .skip)) (.seq (.seq (.reg [⟨some 5, none, .mv (.k (.c (.int .i64 0)))⟩] none [0, 1, 5]) (.block 0 (.loop (.seq (.seq (.reg [⟨some 11, none, .mv (.t 5)⟩, ⟨some 12, none, .mv (.t 0)⟩, ⟨some 13, none, .len (.t 12) false⟩, ⟨some 14, none, .bin false .lss (.t 11) (.t 13)⟩] none [0, 1, 5, 14]) (.cond (.t 14) .skip (.exit 0))) (.seq (.block 1 (.seq (.reg [⟨some 17, none, .mv (.t 0)⟩, ⟨some 18, none, .mv (.t 5)⟩, ⟨some 19, none, .ia (.t 17) (.t 18) 5⟩, ⟨some 20, none, .load (.t 19) (some 5)⟩, ⟨some 21, none, .mv (.t 1)⟩, ⟨some 22, none, .mv (.t 5)⟩, ⟨some 23, none, .ia (.t 21) (.t 22) 5⟩, ⟨some 24, none, .load (.t 23) (some 5)⟩, ⟨some 25, none, .call 15 [(.t 20), (.t 24)]⟩, ⟨some 26, none, .not (.t 25)⟩] (some 8) [0, 1, 5, 26]) (.cond (.t 26) (.seq (.reg [⟨some 4, none, .mv (.k (.c (.bool false)))⟩] none [4]) .ret) .skip))) (.reg [⟨some 15, none, .mv (.t 5)⟩, ⟨some 16, none, .bin false .add (.t 15) (.k (.c (.int .i64 1)))⟩, ⟨some 5, none, .mv (.t 16)⟩] none [0, 1, 5])))))) (.seq (.reg [⟨some 4, none, .mv (.k (.c (.bool true)))⟩] none [4]) .ret))))
theorem chk_eqValS : chkX Tryd.prog 27 (Tryd.f43.body.getD .skip) x_eqValS = true := by kernel_rfl
theorem rs_eqValS : okRs Tryd.prog Tryd.f43.results.toList [.tmp 4] = true := by kernel_rfl
theorem call_eqValS : okCallee Tryd.prog 43 = true := by kernel_rfl
def x_eqVal : X := (.seq (.reg [⟨some 2, none, .box (.t 0) (some 5)⟩, ⟨some 3, none, .box (.t 1) (some 5)⟩, ⟨some 4, none, .mv (.k (.c (.bool false)))⟩] none [2, 3]) (.seq (.seq (.reg [⟨some 5, none, .fa (.t 2) 0⟩, ⟨some 6, none, .load (.t 5) none⟩, ⟨some 7, none, .fa (.t 3) 0⟩, ⟨some 8, none, .load (.t 7) none⟩, ⟨some 9, none, .bin false .neq (.t 6) (.t 8)⟩] none [2, 3, 9]) (.cond (.t 9) (.seq (.reg [⟨some 4, none, .mv (.k (.c (.bool false)))⟩] none [4]) .ret) .skip)) (.seq (.seq (.reg [⟨some 10, none, .fa (.t 2) 1⟩, ⟨some 11, none, .load (.t 10) none⟩, ⟨some 12, none, .fa (.t 3) 1⟩, ⟨some 13, none, .load (.t 12) none⟩, ⟨some 14, none, .bin false .neq (.t 11) (.t 13)⟩] none [2, 3, 14]) (.cond (.t 14) (.seq (.reg [⟨some 4, none, .mv (.k (.c (.bool false)))⟩] none [4]) .ret) .skip)) (.seq (.seq (.reg [⟨some 15, none, .fa (.t 2) 2⟩, ⟨some 16, none, .load (.t 15) none⟩, ⟨some 17, none, .fa (.t 3) 2⟩, ⟨some 18, none, .load (.t 17) none⟩, ⟨some 19, none, .bin false .neq (.t 16) (.t 18)⟩] none [2, 3, 19]) (.cond (.t 19) (.seq (.reg [⟨some 4, none, .mv (.k (.c (.bool false)))⟩] none [4]) .ret) .skip)) (.seq (.seq (.reg [⟨some 20, none, .fa (.t 2) 3⟩, ⟨some 21, none, .load (.t 20) none⟩, ⟨some 22, none, .fa (.t 3) 3⟩, ⟨some 23, none, .load (.t 22) none⟩, ⟨some 24, none, .call 42 [(.t 21), (.t 23)]⟩, ⟨some 25, none, .not (.t 24)⟩] none [2, 3, 25]) (.cond (.t 25) (.seq (.reg [⟨some 4, none, .mv (.k (.c (.bool false)))⟩] none [4]) .ret) .skip)) (.seq (.seq (.reg [⟨some 26, none, .fa (.t 2) 4⟩, ⟨some 27, none, .load (.t 26) none⟩, ⟨some 28, none, .fa (.t 3) 4⟩, ⟨some 29, none, .load (.t 28) none⟩, ⟨some 30, none, .call 43 [(.t 27), (.t 29)]⟩, ⟨some 31, none, .not (.t 30)⟩] none [31]) (.cond (.t 31) (.seq (.reg [⟨some 4, none, .mv (.k (.c (.bool false)))⟩] none [4]) .ret) .skip)) (.seq (.reg [⟨some 4, none, .mv (.k (.c (.bool true)))⟩] none [4]) .ret)))))))
theorem chk_eqVal : chkX Tryd.prog 32 (Tryd.f15.body.getD .skip) x_eqVal = true := by kernel_rfl
theorem rs_eqVal : okRs Tryd.prog Tryd.f15.results.toList [.tmp 4] = true := by kernel_rfl
theorem call_eqVal : okCallee Tryd.prog 15 = true := by kernel_rfl
noncomputable def spEqStrS  : Spec := Spec.of (ι := (List ByteArray) × (List ByteArray)) [false, false] (fun i => [.d (.one (.row 1 (strs i.1))), .d (.one (.row 1 (strs i.2)))]) (fun i => lenB 1048576 i.1.length /\ lenB 1048576 i.2.length) (fun i => [.d (.one (.bool (decide (i.1 = i.2))))]) (fun _ => [.gone, .gone])
theorem spEqStrS_inj : ∀ i j : (List ByteArray) × (List ByteArray), (fun (i : (List ByteArray) × (List ByteArray)) => ([.d (.one (.row 1 (strs i.1))), .d (.one (.row 1 (strs i.2)))] : List AV)) i = (fun (i : (List ByteArray) × (List ByteArray)) => ([.d (.one (.row 1 (strs i.1))), .d (.one (.row 1 (strs i.2)))] : List AV)) j -> i = j := by
 rintro ⟨a, b⟩ ⟨a', b'⟩ h
 simp only [Prod.mk.injEq]
 simpa [strs_eq, T.enc_eq, encL_eq, F.enc_eq, encF_eq, Tk.enc_eq, encTk_eq, Gn.enc_eq, ints_eq] using h
theorem spEqStrS_md  : (spEqStrS).md = [false, false] := rfl
theorem spEqStrS_pre  (a : List ByteArray) (b : List ByteArray) : (spEqStrS).pre [.d (.one (.row 1 (strs a))), .d (.one (.row 1 (strs b)))] = (lenB 1048576 a.length /\ lenB 1048576 b.length) := Spec.of_pre' spEqStrS_inj (a, b)
theorem spEqStrS_alts  : (spEqStrS).alts = none := rfl
theorem spEqStrS_res  (a : List ByteArray) (b : List ByteArray) : (spEqStrS).res [.d (.one (.row 1 (strs a))), .d (.one (.row 1 (strs b)))] = [.d (.one (.bool (decide (a = b))))] := Spec.of_res spEqStrS_inj (a, b)
theorem spEqStrS_out  (a : List ByteArray) (b : List ByteArray) : (spEqStrS).out [.d (.one (.row 1 (strs a))), .d (.one (.row 1 (strs b)))] = [.gone, .gone] := Spec.of_out spEqStrS_inj (a, b)
theorem eqStrS_sound : Sound Tryd.prog 42 spEqStrS := by
 refine sound_fam GOK.nil Tryd.func42 (c := Tryd.f42.body.getD .skip) rfl (n := 26) rfl chk_eqStringS rs_eqStringS (fun _ => by simp) ?_ ?_
 ·exact spEqStrS_inj
 ·rintro ⟨a, b⟩ h1
  obtain h1 := h1
  simp only [lenB] at h1
  skip
  skip
  by_cases hl : a.length = b.length
  ·have b1 : ((a.length : Int) = (b.length : Int)) = True := by simp [hl]
   simp only [x_eqStringS, rg, go_sem, seval, b1, not_true_eq_false]
   refine pw_loop (ι := Nat) (fun i => a.length - i) (fun i => i <= a.length /\ a.take i = b.take i)
    (fun i => ⟨[(0, .q (.c (.row 1 (strs a)))), (1, .q (.c (.row 1 (strs b)))), (5, .q (.c (.int .i64 i)))], [], []⟩) 0 ⟨Nat.zero_le _, rfl⟩ (Le.refl _) ?_
   rintro i ⟨hi, heq⟩
   rcases Nat.lt_or_ge i a.length with hlt | hge
   ·obtain ⟨s, hs, _, hmem⟩ := drop_at hlt
    obtain ⟨s', hs', _, hmem'⟩ := drop_at (l := b) (i := i) (by omega)
    have a1 := strs_at hs
    have a1' := strs_at hs'
    have a2 : ((i : Int) < (a.length : Int)) = True := by simp; omega
    have a3 : ((i : Int) < (b.length : Int)) = True := by simp; omega
    skip
    skip
    skip
    skip
    skip
    by_cases hc : s = s'
    ·have c1 : (s = s') = True := by simp [hc]
     simp only [go_sem, seval, rg, a1, a1', a2, a3, c1, not_true_eq_false]
     repeat' (first | with_reducible assumption | with_reducible refine And.intro ?_ ?_ | intro _)
     all_goals first | omega | skip
     exact ⟨i + 1, ⟨by omega, take_at hs (hc ▸ hs') heq⟩, by omega, Le.refl _⟩
    ·have c1 : (s = s') = False := by simp [hc]
     simp only [go_sem, seval, rg, a1, a1', a2, a3, c1, not_false_eq_true]
     repeat' (first | with_reducible assumption | with_reducible refine And.intro ?_ ?_ | intro _)
     all_goals first | omega | skip
     rename_i h; exact ne_at hs hs' hc h
   ·have a2 : ((i : Int) < (a.length : Int)) = False := by simp; omega
    have hie : i = a.length := by omega
    subst hie
    simp only [go_sem, seval, a2]
    exact take_all hl heq
  ·have b1 : ((a.length : Int) = (b.length : Int)) = False := by simp; omega
   simp only [x_eqStringS, rg, go_sem, seval, b1, not_false_eq_true]
   exact fun e => hl (by rw [e])
noncomputable def spEqTS (k:Nat) : Spec := Spec.of (ι := (List T) × (List T)) [false, false] (fun i => [.d (.one (.row 5 (encL i.1))), .d (.one (.row 5 (encL i.2)))]) (fun i => (lenB 1048576 i.1.length /\ fitL 1048576 i.1 /\ lenB 1048576 i.2.length /\ fitL 1048576 i.2) /\ SizeOf.sizeOf i.1 < k) (fun i => [.d (.one (.bool (decide (i.1 = i.2))))]) (fun _ => [.gone, .gone])
theorem spEqTS_inj : ∀ i j : (List T) × (List T), (fun (i : (List T) × (List T)) => ([.d (.one (.row 5 (encL i.1))), .d (.one (.row 5 (encL i.2)))] : List AV)) i = (fun (i : (List T) × (List T)) => ([.d (.one (.row 5 (encL i.1))), .d (.one (.row 5 (encL i.2)))] : List AV)) j -> i = j := by
 rintro ⟨a, b⟩ ⟨a', b'⟩ h
 simp only [Prod.mk.injEq]
 simpa [strs_eq, T.enc_eq, encL_eq, F.enc_eq, encF_eq, Tk.enc_eq, encTk_eq, Gn.enc_eq, ints_eq] using h
theorem spEqTS_md (k:Nat) : (spEqTS k).md = [false, false] := rfl
theorem spEqTS_pre (k:Nat) (a : List T) (b : List T) : (spEqTS k).pre [.d (.one (.row 5 (encL a))), .d (.one (.row 5 (encL b)))] = ((lenB 1048576 a.length /\ fitL 1048576 a /\ lenB 1048576 b.length /\ fitL 1048576 b) /\ SizeOf.sizeOf a < k) := Spec.of_pre' spEqTS_inj (a, b)
theorem spEqTS_alts (k:Nat) : (spEqTS k).alts = none := rfl
theorem spEqTS_res (k:Nat) (a : List T) (b : List T) : (spEqTS k).res [.d (.one (.row 5 (encL a))), .d (.one (.row 5 (encL b)))] = [.d (.one (.bool (decide (a = b))))] := Spec.of_res spEqTS_inj (a, b)
theorem spEqTS_out (k:Nat) (a : List T) (b : List T) : (spEqTS k).out [.d (.one (.row 5 (encL a))), .d (.one (.row 5 (encL b)))] = [.gone, .gone] := Spec.of_out spEqTS_inj (a, b)
noncomputable def spEqT (k:Nat) : Spec := Spec.of (ι := T × T) [false, false] (fun i => [.d (.agg i.1.enc), .d (.agg i.2.enc)]) (fun i => (i.1.fit 1048576 /\ i.2.fit 1048576) /\ SizeOf.sizeOf i.1 < k) (fun i => [.d (.one (.bool (decide (i.1 = i.2))))]) (fun _ => [.gone, .gone])
theorem spEqT_inj : ∀ i j : T × T, (fun (i : T × T) => ([.d (.agg i.1.enc), .d (.agg i.2.enc)] : List AV)) i = (fun (i : T × T) => ([.d (.agg i.1.enc), .d (.agg i.2.enc)] : List AV)) j -> i = j := by
 rintro ⟨a, b⟩ ⟨a', b'⟩ h
 simp only [Prod.mk.injEq]
 simpa [strs_eq, T.enc_eq, encL_eq, F.enc_eq, encF_eq, Tk.enc_eq, encTk_eq, Gn.enc_eq, ints_eq] using h
theorem spEqT_md (k:Nat) : (spEqT k).md = [false, false] := rfl
theorem spEqT_pre (k:Nat) (a : T) (b : T) : (spEqT k).pre [.d (.agg a.enc), .d (.agg b.enc)] = ((a.fit 1048576 /\ b.fit 1048576) /\ SizeOf.sizeOf a < k) := Spec.of_pre' spEqT_inj (a, b)
theorem spEqT_alts (k:Nat) : (spEqT k).alts = none := rfl
theorem spEqT_res (k:Nat) (a : T) (b : T) : (spEqT k).res [.d (.agg a.enc), .d (.agg b.enc)] = [.d (.one (.bool (decide (a = b))))] := Spec.of_res spEqT_inj (a, b)
theorem spEqT_out (k:Nat) (a : T) (b : T) : (spEqT k).out [.d (.agg a.enc), .d (.agg b.enc)] = [.gone, .gone] := Spec.of_out spEqT_inj (a, b)
theorem eqT_sound (k : Nat) (hS : Sound Tryd.prog 43 (spEqTS k)) : Sound Tryd.prog 15 (spEqT (k + 1)) := by
 refine sound_fam (GOK.cons (l := [(43, spEqTS k)]) call_eqStringS eqStrS_sound (GOK.cons call_eqValS hS GOK.nil)) Tryd.func15 (c := Tryd.f15.body.getD .skip) rfl (n := 32) rfl chk_eqVal rs_eqVal (fun _ => by simp) ?_ ?_
 ·exact spEqT_inj
 ·rintro ⟨a, b⟩ ⟨⟨h1, h2⟩, h4⟩
  obtain ⟨kk, n, s, ks, l⟩ := a
  obtain ⟨kk', n', s', ks', l'⟩ := b
  simp only [T.fit, strsFit] at h1 h2
  obtain ⟨_, _, f1, ⟨f2, f2'⟩, f3, f4⟩ := h1
  obtain ⟨_, _, g1, ⟨g2, g2'⟩, g3, g4⟩ := h2
  have e3 : SizeOf.sizeOf l < k := by have e : SizeOf.sizeOf (T.mk kk n s ks l) < k + 1 := h4
                                      rw [T.mk.sizeOf_spec] at e; omega
  simp only [x_eqVal, T.enc, go_sem, seval, rg, spEqStrS_md, spEqStrS_pre, spEqStrS_alts, spEqStrS_res, spEqStrS_out, spEqTS_md, spEqTS_pre, spEqTS_alts, spEqTS_res, spEqTS_out, T.mk.injEq]
  repeat' (first | with_reducible assumption | with_reducible refine And.intro ?_ ?_ | intro _)
  all_goals first | omega | (simp_all; done) | skip
theorem eqTS_sound (k : Nat) (hS : Sound Tryd.prog 15 (spEqT k)) : Sound Tryd.prog 43 (spEqTS (k + 1)) := by
 refine sound_fam (GOK.cons call_eqVal hS GOK.nil) Tryd.func43 (c := Tryd.f43.body.getD .skip) rfl (n := 27) rfl chk_eqValS rs_eqValS (fun _ => by simp) ?_ ?_
 ·exact spEqTS_inj
 ·rintro ⟨a, b⟩ h1
  obtain ⟨h1, h3⟩ := h1
  simp only at h3
  simp only [lenB] at h1
  have fa := fitL_mem h1.2.1
  have fb := fitL_mem h1.2.2.2
  by_cases hl : a.length = b.length
  ·have b1 : ((a.length : Int) = (b.length : Int)) = True := by simp [hl]
   simp only [x_eqValS, rg, go_sem, seval, b1, not_true_eq_false]
   refine pw_loop (ι := Nat) (fun i => a.length - i) (fun i => i <= a.length /\ a.take i = b.take i)
    (fun i => ⟨[(0, .q (.c (.row 5 (encL a)))), (1, .q (.c (.row 5 (encL b)))), (5, .q (.c (.int .i64 i)))], [], []⟩) 0 ⟨Nat.zero_le _, rfl⟩ (Le.refl _) ?_
   rintro i ⟨hi, heq⟩
   rcases Nat.lt_or_ge i a.length with hlt | hge
   ·obtain ⟨s, hs, _, hmem⟩ := drop_at hlt
    obtain ⟨s', hs', _, hmem'⟩ := drop_at (l := b) (i := i) (by omega)
    have a1 := encL_at hs
    have a1' := encL_at hs'
    have a2 : ((i : Int) < (a.length : Int)) = True := by simp; omega
    have a3 : ((i : Int) < (b.length : Int)) = True := by simp; omega
    have a6 := T.enc_len s
    have a6' := T.enc_len s'
    have a7 := fa s hmem
    have a7' := fb s' hmem'
    have a8 := size_mem hmem
    by_cases hc : s = s'
    ·have c1 : (s = s') = True := by simp [hc]
     simp only [go_sem, seval, rg, a1, a1', a2, a3, c1, not_true_eq_false, a6, a6', spEqT_md, spEqT_pre, spEqT_alts, spEqT_res, spEqT_out]
     repeat' (first | with_reducible assumption | with_reducible refine And.intro ?_ ?_ | intro _)
     all_goals first | omega | skip
     exact ⟨i + 1, ⟨by omega, take_at hs (hc ▸ hs') heq⟩, by omega, Le.refl _⟩
    ·have c1 : (s = s') = False := by simp [hc]
     simp only [go_sem, seval, rg, a1, a1', a2, a3, c1, not_false_eq_true, a6, a6', spEqT_md, spEqT_pre, spEqT_alts, spEqT_res, spEqT_out]
     repeat' (first | with_reducible assumption | with_reducible refine And.intro ?_ ?_ | intro _)
     all_goals first | omega | skip
     rename_i h; exact ne_at hs hs' hc h
   ·have a2 : ((i : Int) < (a.length : Int)) = False := by simp; omega
    have hie : i = a.length := by omega
    subst hie
    simp only [go_sem, seval, a2]
    exact take_all hl heq
  ·have b1 : ((a.length : Int) = (b.length : Int)) = False := by simp; omega
   simp only [x_eqValS, rg, go_sem, seval, b1, not_false_eq_true]
   exact fun e => hl (by rw [e])
theorem eqT_all (k : Nat) : Sound Tryd.prog 15 (spEqT k) /\ Sound Tryd.prog 43 (spEqTS k) := by
 induction k with
 | zero => exact ⟨Sound.none, Sound.none⟩
 | succ k ih => exact ⟨eqT_sound k ih.2, eqTS_sound k ih.1⟩
noncomputable def spEqV  : Spec := Spec.of (ι := T × T) [false, false] (fun i => [.d (.agg i.1.enc), .d (.agg i.2.enc)]) (fun i => i.1.fit 1048576 /\ i.2.fit 1048576) (fun i => [.d (.one (.bool (decide (i.1 = i.2))))]) (fun _ => [.gone, .gone])
theorem spEqV_inj : ∀ i j : T × T, (fun (i : T × T) => ([.d (.agg i.1.enc), .d (.agg i.2.enc)] : List AV)) i = (fun (i : T × T) => ([.d (.agg i.1.enc), .d (.agg i.2.enc)] : List AV)) j -> i = j := by
 rintro ⟨a, b⟩ ⟨a', b'⟩ h
 simp only [Prod.mk.injEq]
 simpa [strs_eq, T.enc_eq, encL_eq, F.enc_eq, encF_eq, Tk.enc_eq, encTk_eq, Gn.enc_eq, ints_eq] using h
theorem spEqV_md  : (spEqV).md = [false, false] := rfl
theorem spEqV_pre  (a : T) (b : T) : (spEqV).pre [.d (.agg a.enc), .d (.agg b.enc)] = (a.fit 1048576 /\ b.fit 1048576) := Spec.of_pre' spEqV_inj (a, b)
theorem spEqV_alts  : (spEqV).alts = none := rfl
theorem spEqV_res  (a : T) (b : T) : (spEqV).res [.d (.agg a.enc), .d (.agg b.enc)] = [.d (.one (.bool (decide (a = b))))] := Spec.of_res spEqV_inj (a, b)
theorem spEqV_out  (a : T) (b : T) : (spEqV).out [.d (.agg a.enc), .d (.agg b.enc)] = [.gone, .gone] := Spec.of_out spEqV_inj (a, b)
theorem eqV_sound : Sound Tryd.prog 15 spEqV := Sound.all (μ := fun i => SizeOf.sizeOf i.1) (fun k => (eqT_all k).1)
end Go.Proofs.Pw
namespace Go.Proofs.Pw
mutual
def T.encX : T -> List C
 | .mk k n s ks l => [.int .i64 k, .int .i64 n, .str s, .own 1 (strs ks), .own 5 (encLX l)]
def encLX : List T -> List (List C)
 | [] => []
 | t :: l => t.encX :: encLX l
end
def agX : T -> List Pt
 | .mk k n s ks l => [.c (.int .i64 k), .c (.int .i64 n), .c (.str s), .o 1 (strs ks), .o 5 (encLX l)]
theorem encLX_map (l : List T) : encLX l = l.map T.encX := by
 induction l with
 | nil => simp [encLX]
 | cons t l ih => simp [encLX, ih]
theorem encLX_len (l : List T) : (encLX l).length = l.length := by rw [encLX_map]; simp
theorem T.encX_len (t : T) : t.encX.length = 5 := by cases t; simp [T.encX]
theorem encLX_app (a b : List T) : encLX (a ++ b) = encLX a ++ encLX b := by simp [encLX_map]
theorem encLX_take {l : List T} {i : Nat} {t : T} (h : l[i]? = some t) : encLX (l.take (i + 1)) = encLX (l.take i) ++ [t.encX] := by
 rw [List.take_add_one, h]; simp [encLX_map]
mutual
theorem dtL_encX : ∀ t : T, dtL t.encX = some t.enc
 | .mk k n s ks l => by simp [T.encX, T.enc, dtL, dtC, dtR_encLX l]
theorem dtR_encLX : ∀ l : List T, dtR (encLX l) = some (encL l)
 | [] => rfl
 | t :: l => by simp [encLX, encL, dtR, dtL_encX t, dtR_encLX l]
end
mutual
theorem flL_encX : ∀ t : T, flL t.encX = true
 | .mk k n s ks l => by
   have h : flR (strs ks) = true := by
    induction ks with
    | nil => rfl
    | cons s ks ih => simp only [strs, List.map_cons, flR, flL, flC, Bool.and_true, Bool.true_and]; exact ih
   simp [T.encX, flL, flC, flR_encLX l, h]
theorem flR_encLX : ∀ l : List T, flR (encLX l) = true
 | [] => rfl
 | t :: l => by simp [encLX, flR, flL_encX t, flR_encLX l]
end
theorem flR_strs (ks : List ByteArray) : flR (strs ks) = true := by
 induction ks with
 | nil => rfl
 | cons s ks ih => simp only [strs, List.map_cons, flR, flL, flC, Bool.and_true, Bool.true_and]; exact ih
attribute [go_sem] flR_strs flR_encLX callL AV.fl Pt.fl flatC encLX_len T.encX_len dtR_encLX allX allXs bslQ Q.toX delR nodupN List.contains_nil List.contains_cons
end Go.Proofs.Pw
namespace Go.Proofs.Pw
theorem encLX_eq {a b : List T} : encLX a = encLX b ↔ a = b := ⟨fun h => by
 have h1 := dtR_encLX a
 rw [h, dtR_encLX b] at h1
 exact (encL_inj (Option.some.inj h1)).symm, fun h => h ▸ rfl⟩
theorem agX_eq {a b : T} : agX a = agX b ↔ a = b := ⟨fun h => by
 cases a; cases b
 simp only [agX, List.cons.injEq, Pt.c.injEq, Pt.o.injEq, C.int.injEq, C.str.injEq, true_and, and_true] at h
 obtain ⟨h1, h2, h3, h4, h5⟩ := h
 rw [h1, h2, h3, strs_inj h4, encLX_eq.1 h5], fun h => h ▸ rfl⟩
def digF : Nat -> Int -> ByteArray -> ByteArray
 | 0, _, out => out
 | f + 1, k, out => if 0 < k then digF f (k.tdiv 10) (bytesS [48 + k.tmod 10] ++ out) else out
def mkS (k : Int) : ByteArray := if k <= 0 then ⟨#[109, 48]⟩ else ⟨#[109]⟩ ++ digF k.toNat k ⟨#[]⟩
theorem digF_pos {f : Nat} {k : Int} {out : ByteArray} (h : 0 < k) : digF (f + 1) k out = digF f (k.tdiv 10) (bytesS [48 + k.tmod 10] ++ out) := by simp [digF, h]
theorem digF_stop {f : Nat} {k : Int} {out : ByteArray} (h : ¬ 0 < k) : digF f k out = out := by cases f <;> simp [digF, h]
theorem digF_more : ∀ {f g : Nat} {k : Int} {out : ByteArray}, k.toNat <= f -> k.toNat <= g -> digF f k out = digF g k out := by
 intro f
 induction f with
 | zero => intro g k out h1 _; rw [digF_stop (by omega), digF_stop (by omega)]
 | succ f ih =>
   intro g k out h1 h2
   by_cases h : 0 < k
   ·cases g with
    | zero => omega
    | succ g =>
      rw [digF_pos h, digF_pos h]
      have : k.tdiv 10 = k / 10 := Int.tdiv_eq_ediv_of_nonneg (by omega)
      exact ih (by rw [this]; omega) (by rw [this]; omega)
   ·rw [digF_stop h, digF_stop h]
def mkKs : List ByteArray -> Int -> List ByteArray
 | [], _ => []
 | _ :: r, k => mkS k :: mkKs r (k + 1)
mutual
def nmT : T -> Int
 | .mk _ _ _ ks l => 3 + ks.length + nmL l
def nmL : List T -> Int
 | [] => 0
 | t :: l => nmT t + nmL l
end
mutual
def mkT : T -> Int -> T
 | .mk _ _ _ ks l, k => .mk k (k + 1) (mkS (k + 2)) (mkKs ks (k + 3)) (mkL l (k + 3 + ks.length))
def mkL : List T -> Int -> List T
 | [], _ => []
 | t :: l, k => mkT t k :: mkL l (k + nmT t)
end
def mkV : T -> Int -> T
 | .mk kk n s ks l, k => .mk kk n s (mkKs ks k) (mkL l (k + ks.length))
def nmV : T -> Int
 | .mk _ _ _ ks l => ks.length + nmL l
theorem mkKs_len : ∀ {ks : List ByteArray} {k : Int}, (mkKs ks k).length = ks.length
 | [], _ => rfl
 | _ :: r, k => by simp [mkKs, mkKs_len (ks := r)]
theorem mkL_len : ∀ {l : List T} {k : Int}, (mkL l k).length = l.length
 | [], _ => rfl
 | _ :: r, k => by simp [mkL, mkL_len (l := r)]
mutual
theorem nmT_nn : ∀ t : T, 3 <= nmT t
 | .mk _ _ _ ks l => by have := nmL_nn l; simp only [nmT]; omega
theorem nmL_nn : ∀ l : List T, 0 <= nmL l
 | [] => by simp [nmL]
 | t :: l => by have := nmT_nn t; have := nmL_nn l; simp only [nmL]; omega
end
mutual
theorem nmT_mk : ∀ (t : T) (k : Int), nmT (mkT t k) = nmT t
 | .mk _ _ _ ks l, k => by simp only [mkT, nmT, mkKs_len, nmL_mk l]
theorem nmL_mk : ∀ (l : List T) (k : Int), nmL (mkL l k) = nmL l
 | [], _ => rfl
 | t :: l, k => by simp only [mkL, nmL, nmT_mk t, nmL_mk l]
end
theorem mkKs_mk : ∀ (ks : List ByteArray) (k : Int), mkKs (mkKs ks k) k = mkKs ks k
 | [], _ => rfl
 | _ :: r, k => by simp only [mkKs, mkKs_mk r]
mutual
theorem mkT_mk : ∀ (t : T) (k : Int), mkT (mkT t k) k = mkT t k
 | .mk _ _ _ ks l, k => by simp only [mkT, mkKs_mk, mkKs_len, mkL_mk l]
theorem mkL_mk : ∀ (l : List T) (k : Int), mkL (mkL l k) k = mkL l k
 | [], _ => rfl
 | t :: l, k => by simp only [mkL, mkT_mk t, nmT_mk t, mkL_mk l]
end
theorem mkV_mk (t : T) (k : Int) : mkV (mkV t k) k = mkV t k := by cases t; simp only [mkV, mkKs_mk, mkKs_len, mkL_mk]
theorem nmV_mk (t : T) (k : Int) : nmV (mkV t k) = nmV t := by cases t; simp only [mkV, nmV, mkKs_len, nmL_mk]
theorem nmL_app : ∀ (a b : List T), nmL (a ++ b) = nmL a + nmL b
 | [], b => by simp [nmL]
 | t :: a, b => by simp only [List.cons_append, nmL, nmL_app a b]; omega
theorem nmL_take {l : List T} {i : Nat} {t : T} (h : l[i]? = some t) : nmL (l.take (i + 1)) = nmL (l.take i) + nmT t := by
 rw [List.take_add_one, h, nmL_app]; simp [nmL]
theorem mkL_app : ∀ (a b : List T) (k : Int), mkL (a ++ b) k = mkL a k ++ mkL b (k + nmL a)
 | [], b, k => by simp [mkL, nmL]
 | t :: a, b, k => by simp only [List.cons_append, mkL, nmL, mkL_app a b]; rw [show k + nmT t + nmL a = k + (nmT t + nmL a) by omega]
theorem mkKs_app : ∀ (a b : List ByteArray) (k : Int), mkKs (a ++ b) k = mkKs a k ++ mkKs b (k + a.length)
 | [], b, k => by simp [mkKs]
 | t :: a, b, k => by simp only [List.cons_append, mkKs, mkKs_app a b, List.length_cons]; rw [show k + 1 + (a.length : Int) = k + ((a.length + 1 : Nat) : Int) by omega]
theorem mkL_take {l : List T} {i : Nat} {t : T} (h : l[i]? = some t) (k : Int) : mkL (l.take (i + 1)) k = mkL (l.take i) k ++ [mkT t (k + nmL (l.take i))] := by
 rw [List.take_add_one, h, mkL_app]; simp [mkL]
theorem mkKs_take {l : List ByteArray} {i : Nat} {t : ByteArray} (h : l[i]? = some t) (k : Int) : mkKs (l.take (i + 1)) k = mkKs (l.take i) k ++ [mkS (k + i)] := by
 have hl : i < l.length := (List.getElem?_eq_some_iff.1 h).1
 rw [List.take_add_one, h, mkKs_app]; simp [mkKs, Nat.min_eq_left (Nat.le_of_lt hl)]
theorem nmL_take_le {l : List T} {i : Nat} : nmL (l.take i) <= nmL l := by
 have h := nmL_app (l.take i) (l.drop i)
 rw [List.take_append_drop] at h
 have := nmL_nn (l.drop i); omega
theorem drop_of {α : Type} {l : List α} {i : Nat} {t : α} (h : l[i]? = some t) : l.drop i = t :: l.drop (i + 1) := by
 have hi : i < l.length := (List.getElem?_eq_some_iff.1 h).1
 rw [List.getElem?_eq_getElem hi] at h
 rw [List.drop_eq_getElem_cons hi, Option.some.inj h]
theorem mkL_at {l : List T} {k : Int} (h : mkL l k = l) {i : Nat} {t : T} (ht : l[i]? = some t) : mkT t (k + nmL (l.take i)) = t := by
 have hi : i < l.length := (List.getElem?_eq_some_iff.1 ht).1
 have e1 := mkL_app (l.take i) (l.drop i) k
 rw [List.take_append_drop, h, drop_of ht] at e1
 simp only [mkL] at e1
 have e2 := congrArg (fun x => x[i]?) e1
 simp only [ht] at e2
 rw [List.getElem?_append_right (by rw [mkL_len]; simp; omega), mkL_len, List.length_take, Nat.min_eq_left (Nat.le_of_lt hi), Nat.sub_self, List.getElem?_cons_zero] at e2
 exact (Option.some.inj e2).symm
theorem mkKs_at {l : List ByteArray} {k : Int} (h : mkKs l k = l) {i : Nat} {t : ByteArray} (ht : l[i]? = some t) : mkS (k + i) = t := by
 have hi : i < l.length := (List.getElem?_eq_some_iff.1 ht).1
 have e1 := mkKs_app (l.take i) (l.drop i) k
 rw [List.take_append_drop, h, drop_of ht] at e1
 simp only [mkKs, List.length_take, Nat.min_eq_left (Nat.le_of_lt hi)] at e1
 have e2 := congrArg (fun x => x[i]?) e1
 simp only [ht] at e2
 rw [List.getElem?_append_right (by rw [mkKs_len]; simp; omega), mkKs_len, List.length_take, Nat.min_eq_left (Nat.le_of_lt hi), Nat.sub_self, List.getElem?_cons_zero] at e2
 exact (Option.some.inj e2).symm
theorem set_mid {α : Type} {a r : List α} {x y : α} {i : Nat} (h : a.length = i) : (a ++ x :: r).set i y = a ++ y :: r := by subst h; simp
theorem get_mid {α : Type} {a r : List α} {x d : α} {i : Nat} (h : a.length = i) : (a ++ x :: r).getD i d = x := by subst h; simp
mutual
theorem nmT_sz : ∀ {t : T} {left : Int}, 0 <= left -> 0 <= szT t left -> nmT t <= 3 + 3 * (left - szT t left)
 | .mk k n s ks l, left, h, h0 => by
   simp only [szT] at h0 ⊢
   split at h0
   ·omega
   ·rename_i c1
    rw [if_neg c1]
    split at h0
    ·omega
    ·rename_i c2
     rw [if_neg c2]
     split at h0
     ·omega
     ·rename_i c3
      rw [if_neg c3]
      have h1 := szStrS_le (ks := ks) (left := left - s.size) (by omega)
      have h2 : szStrS ks (left - s.size) <= left - s.size - ks.length := by
       have := h1; simp only [szStrS] at c2 ⊢; split
       ·rename_i c; rw [if_pos c] at c2; omega
       ·exact (szStr_le (by omega)).1
      have h3 := nmL_sz (l := l) (left := szStrS ks (left - s.size) - l.length) (by omega) h0
      simp only [nmT]; omega
theorem nmL_sz : ∀ {l : List T} {left : Int}, 0 <= left -> 0 <= szTL l left -> nmL l <= 3 * l.length + 3 * (left - szTL l left)
 | [], left, h, h0 => by simp [nmL, szTL]
 | t :: r, left, h, h0 => by
   simp only [szTL] at h0 ⊢
   split at h0
   ·omega
   ·rename_i c1
    rw [if_neg c1]
    have h1 := nmT_sz (t := t) h (by omega)
    have h2 := nmL_sz (l := r) (left := szT t left) (by omega) h0
    simp only [nmL, List.length_cons]; omega
end
end Go.Proofs.Pw
namespace Go.Proofs.Pw
open Go.RowKit
mutual
theorem T.fit_mono {A B : Int} (hAB : A <= B) : ∀ {t : T}, t.fit A -> t.fit B
 | .mk k n s ks l, h => by
   simp only [T.fit, strsFit, lenB] at h ⊢
   obtain ⟨h1, h2, h3, ⟨h4, h5⟩, h6, h7⟩ := h
   exact ⟨h1, h2, by omega, ⟨by omega, fun s hs => by have := h5 s hs; omega⟩, by omega, fitL_mono hAB h7⟩
theorem fitL_mono {A B : Int} (hAB : A <= B) : ∀ {l : List T}, fitL A l -> fitL B l
 | [], _ => trivial
 | _ :: _, h => ⟨T.fit_mono hAB h.1, fitL_mono hAB h.2⟩
end
def topT (b : Nat) : T -> Prop
 | .mk _ _ _ ks l => l.length <= b /\ ks.length <= b
def drT (m : Int) (t : T) : Prop := t.fit 1000 /\ sizeT t <= m /\ topT 6 t
theorem drT.fit {m : Int} {t : T} (h : drT m t) : t.fit 140737488355328 := T.fit_mono (by decide) h.1
theorem drT.mono {m n : Int} (hmn : m <= n) {t : T} (h : drT m t) : drT n t := ⟨h.1, Int.le_trans h.2.1 hmn, h.2.2⟩
def vb : Nat -> Int
 | 0 => 20
 | k + 1 => 20 + 5 * vb k
theorem strs_app (a b : List ByteArray) : strs (a ++ b) = strs a ++ strs b := by simp [strs]
theorem encL_app (a b : List T) : encL (a ++ b) = encL a ++ encL b := by
 induction a with
 | nil => simp [encL]
 | cons t a ih => simp only [List.cons_append, encL, ih]
section
variable [Globs]
theorem Le.ownB {tm : List (Nat × PV)} {bx : List (Nat × List Q)} {rw_ : List (Nat × Nat × List (List C))} {b j d sz : Nat} {qs : List Q} (h0 : 0 < sz) (hb : (b, qs) ∈ bx) (hj : qs[j]? = some (.z sz))
 (hk : ∀ p ∈ bx, ∀ q ∈ p.2, q.killO d = q) (ht : ∀ p ∈ tm, p.2.map (Q.killO d) = p.2) (hdB : d < BASE := by decide) : Le ⟨tm, bx, rw_⟩ ⟨tm, upd b (qs.set j (.own d)) bx, upd d (sz, []) rw_⟩ := fun X n B w0 ac w M hs => by
 obtain ⟨hB, t, cells, c1, c2, c3⟩ := hs.mem.box b qs hb
 obtain ⟨u, u1, u2, A, hz⟩ := c3 j _ hj
 have hpb : ∀ g, ¬ pblk (RV.of u) g := fun g => by rw [pblk_of, hz]; cases A <;> simp [oblk]
 have hm := Mem.getRow (σ := ⟨tm, bx, rw_⟩) (d := d) (es := []) (v' := RV.of u) hs.mem h0 ⟨.inr ⟨rfl, A, hz⟩, fun _ h => h.elim⟩ (fun g hg => absurd hg (hpb g)) (fun g hg => absurd hg (hpb g)) (fun _ _ _ hg => absurd hg (hpb _)) (fun _ _ g _ _ hg => absurd hg (hpb g))
 have hbx : (St.map (Q.killO d) ⟨tm, bx, rw_⟩).bx = bx := by
  simp only [St.map]
  conv => rhs; rw [<- List.map_id bx]
  refine List.map_congr_left (fun p hp => ?_)
  obtain ⟨i, qs⟩ := p
  simp only [id, Prod.mk.injEq, true_and]
  conv => rhs; rw [<- List.map_id qs]
  exact List.map_congr_left (fun q hq => hk _ hp q hq)
 rw [hbx] at hm
 have hin : ∀ {i q}, (i, q) ∈ upd b (qs.set j (.own d)) bx -> ∃ q', (i, q') ∈ bx := fun h => by
  rcases upd_mem h with ⟨rfl, _⟩ | ⟨_, h⟩
  ·exact ⟨_, hb⟩
  ·exact ⟨_, h⟩
 refine ⟨M.nr d (RV.of u), hs.size, hs.defs, fun t' p hp => ?_, ⟨fun i q h => ?_, hm.row, fun i q i' q' h h' hne => ?_, fun i q i' r h h' => ?_, hm.rr, hm.lt, fun i q h => ?_, hm.sr, hm.gl⟩, hs.fr, hs.hB, hs.sS, hs.sβ, fun i hi hb => by simp only [Gh.nr]; rw [if_neg (by omega)]; exact hs.sρ i hi hb⟩
 ·have := map_v (nr_q (d := d) (v' := RV.of u) (Up.refl hs.mem.lt) hs.mem.lt) (hs.tm _ _ hp)
  rwa [ht _ hp] at this
 ·rcases upd_mem h with ⟨rfl, rfl⟩ | ⟨_, h⟩
  ·obtain ⟨k1, t', cells', k2, k3, k4⟩ := hm.box _ qs hb
   have hce : cells' = cells := by
    have e := k2.symm.trans c1
    simp only [Option.some.injEq] at e
    cases e; rfl
   subst hce
   refine ⟨k1, t', _, k2, by rw [List.length_set]; exact k3, fun j' q hq => ?_⟩
   by_cases hjj : j = j'
   ·subst hjj
    have hlt : j < qs.length := (List.getElem?_eq_some_iff.1 hj).1
    rw [List.getElem?_set_self hlt] at hq
    cases hq
    exact ⟨u, u1, u2, by simp [Gh.nr], by rw [hz]; rfl⟩
   ·rw [List.getElem?_set_ne hjj] at hq
    exact k4 j' q hq
  ·exact hm.box i q h
 ·obtain ⟨_, e1⟩ := hin h; obtain ⟨_, e2⟩ := hin h'
  exact hm.bb _ _ _ _ e1 e2 hne
 ·obtain ⟨_, e1⟩ := hin h
  exact hm.br _ _ _ _ e1 h'
 ·obtain ⟨_, e1⟩ := hin h
  exact hm.sb _ _ e1
def QLe (p q : Q) : Prop := ∀ w M v, RelQ w M p v -> RelQ w M q v
theorem QLe.refl (p : Q) : QLe p p := fun _ _ _ h => h
theorem QLe.z (sz : Nat) : QLe (.z sz) (.c (.row sz [])) := fun _ _ _ h => by obtain ⟨A, rfl⟩ := h; exact .nil sz A 0
theorem QLe.full (sz : Nat) (es : List (List C)) : QLe (.full sz es) (.c (.row sz es)) := fun _ _ _ h => h.1
theorem QLe.no (p : Q) : QLe p .no := fun _ _ _ _ => trivial
theorem Le.bx {tm : List (Nat × PV)} {bx bx' : List (Nat × List Q)} {rw_ : List (Nat × Nat × List (List C))} (h : ∀ p ∈ bx', ∃ q, (p.1, q) ∈ bx /\ All2 QLe q p.2) : Le ⟨tm, bx, rw_⟩ ⟨tm, bx', rw_⟩ := fun X n B w0 ac w M hs => by
 have hin : ∀ {i q}, (i, q) ∈ bx' -> ∃ q', (i, q') ∈ bx := fun hq => by obtain ⟨q', h1, _⟩ := h _ hq; exact ⟨q', h1⟩
 refine ⟨M, hs.size, hs.defs, hs.tm, ⟨fun i q hq => ?_, hs.mem.row, fun i q j q' h1 h2 hne => ?_, fun i q j r h1 h2 => ?_, hs.mem.rr, hs.mem.lt, fun i q h1 => ?_, hs.mem.sr, hs.mem.gl⟩, hs.fr, hs.hB, hs.sS, hs.sβ, hs.sρ⟩
 ·obtain ⟨q', h1, h2⟩ := h _ hq
  obtain ⟨k1, t, cells, k2, k3, k4⟩ := hs.mem.box i q' h1
  refine ⟨k1, t, cells, k2, by rw [k3]; exact h2.length, fun j x hx => ?_⟩
  have hlt : j < q'.length := by rw [h2.length]; exact (List.getElem?_eq_some_iff.1 hx).1
  obtain ⟨u, u1, u2, u3⟩ := k4 j q'[j] (by simp [hlt])
  obtain ⟨y, hy, hle⟩ := h2.get j q'[j] (by simp [hlt])
  rw [hx] at hy; cases hy
  exact ⟨u, u1, u2, hle _ _ _ u3⟩
 ·obtain ⟨_, e1⟩ := hin h1; obtain ⟨_, e2⟩ := hin h2
  exact hs.mem.bb _ _ _ _ e1 e2 hne
 ·obtain ⟨_, e1⟩ := hin h1
  exact hs.mem.br _ _ _ _ e1 h2
 ·obtain ⟨_, e1⟩ := hin h1
  exact hs.mem.sb _ _ e1
theorem allCB_map (σ : St) (cs : List C) : allCB σ (cs.map .c) = some cs := by
 induction cs with
 | nil => rfl
 | cons c cs ih => simp only [List.map_cons, allCB, ih]; cases c <;> rfl
end
attribute [go_sem] allCB_map
end Go.Proofs.Pw
