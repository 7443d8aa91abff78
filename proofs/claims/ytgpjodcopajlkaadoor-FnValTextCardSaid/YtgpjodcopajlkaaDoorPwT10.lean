/- What is a tree that is ok, told of trees. -/
import Derived.Test.YtgpjodcopajlkaaDoorPwT9
import Derived.Test.YtgpjodcopajlkaaDoorProg
import Derived.KernelRfl
set_option linter.unusedSimpArgs false
set_option linter.unusedVariables false
set_option linter.unusedSectionVars false
set_option maxRecDepth 20000
namespace Go.Proofs.Pw
def letter (x : UInt8) : Prop := 97 <= x.toNat /\ x.toNat <= 122
def okS (s : ByteArray) : Prop := (∀ x ∈ s.data.toList, letter x) /\ s.size <= 12
noncomputable instance (s : ByteArray) : Decidable (okS s) := Classical.propDecidable _
theorem byteAt_get {s : ByteArray} {i : Nat} (h : i < s.size) : ∃ x, s.data.toList[i]? = some x /\ byteAt s i = (x.toNat : Int) /\ x ∈ s.data.toList := by
 have h' : i < s.data.toList.length := by simpa using h
 refine ⟨s.data.toList[i], by simp, ?_, List.getElem_mem h'⟩
 unfold byteAt
 rw [List.getD_eq_getElem?_getD, List.getElem?_eq_getElem h']; rfl
theorem bl_tri : ∀ (x y : List UInt8), (¬ (Op.bytesLess x y = true \/ x = y)) ↔ Op.bytesLess y x = true := by
 intro x
 induction x with
 | nil => intro y; cases y <;> simp [Op.bytesLess]
 | cons a x ih =>
   intro y
   cases y with
   | nil => simp [Op.bytesLess]
   | cons b y =>
     have := ih y
     simp only [Op.bytesLess, Bool.or_eq_true, decide_eq_true_eq, Bool.and_eq_true, beq_iff_eq, List.cons.injEq]
     have h1 : a < b ↔ a.toNat < b.toNat := UInt8.lt_iff_toNat_lt
     have h2 : b < a ↔ b.toNat < a.toNat := UInt8.lt_iff_toNat_lt
     have h3 : a = b ↔ a.toNat = b.toNat := UInt8.toNat_inj.symm
     rw [h1, h2, h3, eq_comm (a := b), h3]
     constructor
     ·intro h
      by_cases e : a.toNat = b.toNat
      ·exact .inr ⟨e, this.1 (fun k => h (k.elim (fun k => .inl (.inr ⟨e, k⟩)) (fun k => .inr ⟨e, k⟩)))⟩
      ·refine .inl ?_
       have : ¬ a.toNat < b.toNat := fun k => h (.inl (.inl k))
       omega
     ·rintro (h | ⟨e, h⟩) k
      ·rcases k with (k | ⟨k, _⟩) | ⟨k, _⟩ <;> omega
      ·refine this.2 h ?_
       rcases k with (k | ⟨_, k⟩) | ⟨_, k⟩
       ·omega
       ·exact .inl k
       ·exact .inr k
theorem ba_eq {a b : ByteArray} (h : a.toList = b.toList) : a = b := by
 rw [ByteArray.toList_eq, ByteArray.toList_eq] at h
 cases a; cases b; rename_i x y; cases x; cases y; simp_all
theorem sl_tri (a b : ByteArray) : (¬ (sl a b \/ a = b)) ↔ sl b a := by
 have := bl_tri a.toList b.toList
 unfold sl
 rw [<- this]
 constructor
 ·intro h k; exact h (k.imp id ba_eq)
 ·intro h k; exact h (k.imp id (fun e => by rw [e]))
def okKeysN (ks : List ByteArray) (n : Nat) : Prop := (∀ (j : Nat) k, j < n -> ks[j]? = some k -> okS k) /\ ∀ (j : Nat) a b, j + 1 < n -> ks[j]? = some a -> ks[j + 1]? = some b -> sl a b
def okKeys (ks : List ByteArray) : Prop := okKeysN ks ks.length
noncomputable instance (ks : List ByteArray) : Decidable (okKeys ks) := Classical.propDecidable _
theorem okKeysN_zero (ks : List ByteArray) : okKeysN ks 0 := ⟨fun _ _ h => by omega, fun _ _ _ h => by omega⟩
theorem okKeysN_succ {ks : List ByteArray} {n : Nat} {k : ByteArray} (h : okKeysN ks n) (hk : ks[n]? = some k) (h1 : okS k) (h2 : ∀ a, 0 < n -> ks[n - 1]? = some a -> sl a k) : okKeysN ks (n + 1) := by
 refine ⟨fun j x hj hx => ?_, fun j a b hj ha hb => ?_⟩
 ·by_cases e : j = n
  ·subst e; rw [hk] at hx; cases hx; exact h1
  ·exact h.1 j x (by omega) hx
 ·by_cases e : j + 1 = n
  ·subst e; rw [hk] at hb; cases hb; exact h2 a (by omega) (by simpa using ha)
  ·exact h.2 j a b (by omega) ha hb
theorem okKeys_at {ks : List ByteArray} {n : Nat} {k : ByteArray} (h : okKeys ks) (hk : ks[n]? = some k) : okS k := h.1 n k (List.getElem?_eq_some_iff.1 hk).1 hk
theorem okKeys_lt {ks : List ByteArray} {n : Nat} {a k : ByteArray} (h : okKeys ks) (hn : 0 < n) (ha : ks[n - 1]? = some a) (hk : ks[n]? = some k) : sl a k := by
 have := (List.getElem?_eq_some_iff.1 hk).1
 exact h.2 (n - 1) a k (by omega) ha (by rw [Nat.sub_add_cancel hn]; exact hk)
mutual
def formT : T -> Int -> Prop
 | .mk k n s ks l, d => 1 <= d /\ (k = 3 \/ n = 0) /\ (k = 4 \/ s = ⟨#[]⟩) /\ (k = 6 \/ ks = []) /\ (5 <= k \/ l = []) /\ 0 <= k /\ k <= 6 /\ -1000000 <= n /\ n <= 1000000 /\ okS s /\ (k = 6 -> ks.length = l.length /\ okKeys ks) /\ formL l (d - 1)
def formL : List T -> Int -> Prop
 | [], _ => True
 | t :: l, d => formT t d /\ formL l d
end
noncomputable instance (t : T) (d : Int) : Decidable (formT t d) := Classical.propDecidable _
theorem formL_mem {l : List T} {d : Int} : formL l d ↔ ∀ t ∈ l, formT t d := by
 induction l with
 | nil => simp [formL]
 | cons x l ih => simp [formL, ih]
theorem okS_nil : okS ⟨#[]⟩ := ⟨by simp, by decide⟩
mutual
def manyT : T -> Int -> Int
 | .mk _ _ _ _ l, d => 1 + manyL l d
def manyL : List T -> Int -> Int
 | [], _ => 0
 | t :: l, d => if 0 < d then manyT t (d - 1) + manyL l d else 0
end
mutual
def sizeT : T -> Int
 | .mk _ _ _ _ l => 1 + sizeL l
def sizeL : List T -> Int
 | [] => 0
 | t :: l => sizeT t + sizeL l
end
def okT (t : T) : Prop := formT t 6 /\ manyT t 6 <= 60
noncomputable instance (t : T) : Decidable (okT t) := Classical.propDecidable _
end Go.Proofs.Pw
namespace Go.Proofs.Pw
mutual
theorem manyT_le : ∀ (t : T) (d : Int), 0 <= manyT t d /\ manyT t d <= sizeT t
 | .mk k n s ks l, d => by
   have := manyL_le l d
   simp only [manyT, sizeT]; omega
theorem manyL_le : ∀ (l : List T) (d : Int), 0 <= manyL l d /\ manyL l d <= sizeL l
 | [], d => by simp [manyL, sizeL]
 | t :: l, d => by
   have h1 := manyT_le t (d - 1)
   have h2 := manyL_le l d
   simp only [manyL, sizeL]
   split <;> omega
end
theorem sizeL_at {l : List T} {i : Nat} {t : T} (h : l[i]? = some t) : sizeT t <= sizeL l := by
 induction l generalizing i with
 | nil => simp at h
 | cons x l ih =>
   have h2 := manyL_le l 0
   have h3 := manyT_le x 0
   cases i with
   | zero => simp at h; subst h; simp only [sizeL]; omega
   | succ i => have := ih (by simpa using h); simp only [sizeL]; omega
end Go.Proofs.Pw
namespace Go.Proofs.Pw
theorem formL_len {l : List T} {d : Int} (h : l.length = 0) : formL l d := by
 cases l with
 | nil => simp [formL]
 | cons _ _ => simp at h
end Go.Proofs.Pw
namespace Go.Proofs.Pw
def headOk (k n : Int) (s : ByteArray) (ks : List ByteArray) (l : List T) : Prop :=
 (k = 3 \/ n = 0) /\ (k = 4 \/ s = ⟨#[]⟩) /\ (k = 6 \/ ks.length = 0) /\ (5 <= k \/ l.length = 0) /\ 0 <= k /\ k <= 6 /\ -1000000 <= n /\ n <= 1000000 /\ okS s /\ (k = 6 -> ks.length = l.length) /\ okKeys ks
noncomputable instance (k n : Int) (s : ByteArray) (ks : List ByteArray) (l : List T) : Decidable (headOk k n s ks l) := Classical.propDecidable _
mutual
noncomputable def okI : T -> Int -> Int -> Bool × Int
 | .mk k n s ks l, d, left => if 1 <= left /\ d <= 6 /\ headOk k n s ks l then okIL l (d + 1) (left - 1) else (false, left - 1)
noncomputable def okIL : List T -> Int -> Int -> Bool × Int
 | [], _, left => (true, left)
 | t :: r, d, left => if (okI t d left).1 = true then okIL r d (okI t d left).2 else (false, (okI t d left).2)
end
mutual
theorem okI_le : ∀ (t : T) (d left : Int), (okI t d left).2 <= left /\ ((okI t d left).1 = true -> 0 <= (okI t d left).2)
 | .mk k n s ks l, d, left => by
   have := okIL_le l (d + 1) (left - 1)
   simp only [okI]
   split
   ·exact ⟨by omega, fun h => this.2 (by omega) h⟩
   ·exact ⟨by simp only; omega, fun h => by simp at h⟩
theorem okIL_le : ∀ (l : List T) (d left : Int), (okIL l d left).2 <= left /\ (0 <= left -> (okIL l d left).1 = true -> 0 <= (okIL l d left).2)
 | [], d, left => by simp [okIL]
 | t :: r, d, left => by
   have h1 := okI_le t d left
   have h2 := okIL_le r d (okI t d left).2
   simp only [okIL]
   split
   ·rename_i h; exact ⟨by omega, fun _ h' => h2.2 (h1.2 h) h'⟩
   ·rename_i h; exact ⟨h1.1, fun _ h' => by simp at h'⟩
end
end Go.Proofs.Pw
namespace Go.Proofs.Pw
def T.zero : T := .mk 0 0 ⟨#[]⟩ [] []
end Go.Proofs.Pw
namespace Go.Proofs.Pw
open Go.RowKit
def rdC (bs : List Int) (p : Int) : List C := [.row 1 (ints .u8 bs), .int .i64 p]
theorem rdC_eq {a b : List Int} {p q : Int} : rdC a p = rdC b q ↔ a = b /\ p = q := by simp [rdC, ints_eq]
def byt (bs : List Int) : Prop := (∀ b ∈ bs, 0 <= b /\ b <= 255) /\ bs.length <= 2000
mutual
theorem T.fit_mono {A B : Int} (hAB : A <= B) : ∀ {t : T}, t.fit A -> t.fit B
 | .mk k n s ks l, h => by
   simp only [T.fit, strsFit, lenB] at h ⊢
   obtain ⟨h1, h2, h3, ⟨h4, h5⟩, h6, h7⟩ := h
   exact ⟨h1, h2, by omega, ⟨by omega, fun s hs => by have := h5 s hs; omega⟩, by omega, fitL_mono hAB h7⟩
theorem fitL_mono {A B : Int} (hAB : A <= B) : ∀ {l : List T}, fitL A l -> fitL B l
 | [], _ => trivial
 | _ :: _, h => ⟨T.fit_mono hAB h.1, fitL_mono hAB h.2⟩
end
def topT (b : Nat) : T -> Prop
 | .mk _ _ _ ks l => l.length <= b /\ ks.length <= b
def drT (m : Int) (t : T) : Prop := t.fit 1000 /\ sizeT t <= m /\ topT 6 t
theorem drT.fit {m : Int} {t : T} (h : drT m t) : t.fit 140737488355328 := T.fit_mono (by decide) h.1
theorem drT.mono {m n : Int} (hmn : m <= n) {t : T} (h : drT m t) : drT n t := ⟨h.1, Int.le_trans h.2.1 hmn, h.2.2⟩
theorem drT_leaf {k n : Int} {s : ByteArray} (hk : i64 k) (hn : i64 n) (hs : (s.size : Int) <= 1000) : drT 1 (.mk k n s [] []) := by
 refine ⟨⟨hk, hn, hs, ⟨by simp [lenB], by simp⟩, by simp [lenB], trivial⟩, ?_, by simp [topT]⟩
 simp [sizeT, sizeL]
def vb : Nat -> Int
 | 0 => 20
 | k + 1 => 20 + 5 * vb k
theorem vb_pos : ∀ k, 20 <= vb k
 | 0 => by simp [vb]
 | k + 1 => by have := vb_pos k; simp only [vb]; omega
theorem fitL_app {B : Int} {a b : List T} (h : fitL B a) (h' : fitL B b) : fitL B (a ++ b) := by
 induction a with
 | nil => exact h'
 | cons t a ih => exact ⟨h.1, ih h.2⟩
theorem sizeL_app (a b : List T) : sizeL (a ++ b) = sizeL a + sizeL b := by
 induction a with
 | nil => simp [sizeL]
 | cons t a ih => simp only [List.cons_append, sizeL, ih]; omega
theorem strs_app (a b : List ByteArray) : strs (a ++ b) = strs a ++ strs b := by simp [strs]
theorem encL_app (a b : List T) : encL (a ++ b) = encL a ++ encL b := by
 induction a with
 | nil => simp [encL]
 | cons t a ih => simp only [List.cons_append, encL, ih]
theorem weak_md (sp : Spec) : sp.weak.md = sp.md := rfl
theorem weak_pre (sp : Spec) (ds : List AV) : sp.weak.pre ds = sp.pre ds := rfl
theorem weak_all (sp : Spec) (ds : List AV) (F : List AV -> List AV -> Prop) : sp.weak.all ds F = sp.all ds (fun r o => F (r.map AV.weak) o) := by
 unfold Spec.all Spec.may Spec.weak
 cases sp.alts with
 | none => exact propext ⟨fun h r o ⟨hr, ho⟩ => h _ o ⟨by rw [hr], ho⟩, fun h r o ⟨hr, ho⟩ => by rw [hr]; exact h _ o ⟨rfl, ho⟩⟩
 | some R => exact propext ⟨fun h r o hro => h _ o ⟨r, hro, rfl⟩, fun h r o ⟨r', hr', he⟩ => by rw [he]; exact h r' o hr'⟩
theorem weak_ne (sp : Spec) (ds : List AV) : sp.weak.ne ds = sp.ne ds := by
 unfold Spec.ne Spec.may Spec.weak
 cases sp.alts with
 | none => exact propext ⟨fun ⟨r, o, hr, ho⟩ => ⟨_, o, rfl, ho⟩, fun ⟨r, o, hr, ho⟩ => ⟨_, o, rfl, ho⟩⟩
 | some R => exact propext ⟨fun ⟨r, o, r', h, _⟩ => ⟨r', o, h⟩, fun ⟨r, o, h⟩ => ⟨_, o, r, h, rfl⟩⟩
theorem byt_at {bs : List Int} (h : byt bs) {i : Nat} (hi : i < bs.length) : ∃ b, bs[i]? = some b /\ (ints .u8 bs).getD i [] = [.int .u8 b] /\ 0 <= b /\ b <= 255 := by
 refine ⟨bs[i], by simp [hi], ints_at (by simp [hi]), h.1 _ (by simp)⟩
section
variable [Globs]
theorem Le.ownB {tm : List (Nat × PV)} {bx : List (Nat × List Q)} {rw_ : List (Nat × Nat × List (List C))} {b j d sz : Nat} {qs : List Q} (h0 : 0 < sz) (hb : (b, qs) ∈ bx) (hj : qs[j]? = some (.z sz))
 (hk : ∀ p ∈ bx, ∀ q ∈ p.2, q.killO d = q) (ht : ∀ p ∈ tm, p.2.map (Q.killO d) = p.2) (hdB : d < BASE := by decide) : Le ⟨tm, bx, rw_⟩ ⟨tm, upd b (qs.set j (.own d)) bx, upd d (sz, []) rw_⟩ := fun X n B w0 ac w M hs => by
 obtain ⟨hB, t, cells, c1, c2, c3⟩ := hs.mem.box b qs hb
 obtain ⟨u, u1, u2, A, hz⟩ := c3 j _ hj
 have hpb : ∀ g, ¬ pblk (RV.of u) g := fun g => by rw [pblk_of, hz]; cases A <;> simp [oblk]
 have hm := Mem.getRow (σ := ⟨tm, bx, rw_⟩) (d := d) (es := []) (v' := RV.of u) hs.mem h0 ⟨.inr ⟨rfl, A, hz⟩, fun _ h => h.elim⟩ (fun g hg => absurd hg (hpb g)) (fun g hg => absurd hg (hpb g)) (fun _ _ _ hg => absurd hg (hpb _)) (fun _ _ g _ _ hg => absurd hg (hpb g))
 have hbx : (St.map (Q.killO d) ⟨tm, bx, rw_⟩).bx = bx := by
  simp only [St.map]
  conv => rhs; rw [<- List.map_id bx]
  refine List.map_congr_left (fun p hp => ?_)
  obtain ⟨i, qs⟩ := p
  simp only [id, Prod.mk.injEq, true_and]
  conv => rhs; rw [<- List.map_id qs]
  exact List.map_congr_left (fun q hq => hk _ hp q hq)
 rw [hbx] at hm
 have hin : ∀ {i q}, (i, q) ∈ upd b (qs.set j (.own d)) bx -> ∃ q', (i, q') ∈ bx := fun h => by
  rcases upd_mem h with ⟨rfl, _⟩ | ⟨_, h⟩
  ·exact ⟨_, hb⟩
  ·exact ⟨_, h⟩
 refine ⟨M.nr d (RV.of u), hs.size, hs.defs, fun t' p hp => ?_, ⟨fun i q h => ?_, hm.row, fun i q i' q' h h' hne => ?_, fun i q i' r h h' => ?_, hm.rr, hm.lt, fun i q h => ?_, hm.sr, hm.gl⟩, hs.fr, hs.hB, hs.sS, hs.sβ, fun i hi hb => by simp only [Gh.nr]; rw [if_neg (by omega)]; exact hs.sρ i hi hb⟩
 ·have := map_v (nr_q (d := d) (v' := RV.of u) (Up.refl hs.mem.lt) hs.mem.lt) (hs.tm _ _ hp)
  rwa [ht _ hp] at this
 ·rcases upd_mem h with ⟨rfl, rfl⟩ | ⟨_, h⟩
  ·obtain ⟨k1, t', cells', k2, k3, k4⟩ := hm.box _ qs hb
   have hce : cells' = cells := by
    have e := k2.symm.trans c1
    simp only [Option.some.injEq] at e
    cases e; rfl
   subst hce
   refine ⟨k1, t', _, k2, by rw [List.length_set]; exact k3, fun j' q hq => ?_⟩
   by_cases hjj : j = j'
   ·subst hjj
    have hlt : j < qs.length := (List.getElem?_eq_some_iff.1 hj).1
    rw [List.getElem?_set_self hlt] at hq
    cases hq
    exact ⟨u, u1, u2, by simp [Gh.nr], by rw [hz]; rfl⟩
   ·rw [List.getElem?_set_ne hjj] at hq
    exact k4 j' q hq
  ·exact hm.box i q h
 ·obtain ⟨_, e1⟩ := hin h; obtain ⟨_, e2⟩ := hin h'
  exact hm.bb _ _ _ _ e1 e2 hne
 ·obtain ⟨_, e1⟩ := hin h
  exact hm.br _ _ _ _ e1 h'
 ·obtain ⟨_, e1⟩ := hin h
  exact hm.sb _ _ e1
def QLe (p q : Q) : Prop := ∀ w M v, RelQ w M p v -> RelQ w M q v
theorem QLe.refl (p : Q) : QLe p p := fun _ _ _ h => h
theorem QLe.z (sz : Nat) : QLe (.z sz) (.c (.row sz [])) := fun _ _ _ h => by obtain ⟨A, rfl⟩ := h; exact .nil sz A 0
theorem QLe.full (sz : Nat) (es : List (List C)) : QLe (.full sz es) (.c (.row sz es)) := fun _ _ _ h => h.1
theorem QLe.no (p : Q) : QLe p .no := fun _ _ _ _ => trivial
theorem Le.bx {tm : List (Nat × PV)} {bx bx' : List (Nat × List Q)} {rw_ : List (Nat × Nat × List (List C))} (h : ∀ p ∈ bx', ∃ q, (p.1, q) ∈ bx /\ All2 QLe q p.2) : Le ⟨tm, bx, rw_⟩ ⟨tm, bx', rw_⟩ := fun X n B w0 ac w M hs => by
 have hin : ∀ {i q}, (i, q) ∈ bx' -> ∃ q', (i, q') ∈ bx := fun hq => by obtain ⟨q', h1, _⟩ := h _ hq; exact ⟨q', h1⟩
 refine ⟨M, hs.size, hs.defs, hs.tm, ⟨fun i q hq => ?_, hs.mem.row, fun i q j q' h1 h2 hne => ?_, fun i q j r h1 h2 => ?_, hs.mem.rr, hs.mem.lt, fun i q h1 => ?_, hs.mem.sr, hs.mem.gl⟩, hs.fr, hs.hB, hs.sS, hs.sβ, hs.sρ⟩
 ·obtain ⟨q', h1, h2⟩ := h _ hq
  obtain ⟨k1, t, cells, k2, k3, k4⟩ := hs.mem.box i q' h1
  refine ⟨k1, t, cells, k2, by rw [k3]; exact h2.length, fun j x hx => ?_⟩
  have hlt : j < q'.length := by rw [h2.length]; exact (List.getElem?_eq_some_iff.1 hx).1
  obtain ⟨u, u1, u2, u3⟩ := k4 j q'[j] (by simp [hlt])
  obtain ⟨y, hy, hle⟩ := h2.get j q'[j] (by simp [hlt])
  rw [hx] at hy; cases hy
  exact ⟨u, u1, u2, hle _ _ _ u3⟩
 ·obtain ⟨_, e1⟩ := hin h1; obtain ⟨_, e2⟩ := hin h2
  exact hs.mem.bb _ _ _ _ e1 e2 hne
 ·obtain ⟨_, e1⟩ := hin h1
  exact hs.mem.br _ _ _ _ e1 h2
 ·obtain ⟨_, e1⟩ := hin h1
  exact hs.mem.sb _ _ e1
theorem allCB_map (σ : St) (cs : List C) : allCB σ (cs.map .c) = some cs := by
 induction cs with
 | nil => rfl
 | cons c cs ih => simp only [List.map_cons, allCB, ih]; cases c <;> rfl
end
attribute [go_sem] allCB_map
end Go.Proofs.Pw
namespace Go.Proofs.Pw
variable [Globs]
def x_l1Str : X := (.seq (.reg [⟨some 2, none, .mv (.k (.c (.bool false)))⟩] none [0]) (.seq (.seq (.reg [⟨some 3, none, .mv (.k (.c (.int .i64 0)))⟩] none [0, 3]) (.block 0 (.loop (.seq (.seq (.reg [⟨some 4, none, .mv (.t 3)⟩, ⟨some 5, none, .mv (.t 0)⟩, ⟨some 6, none, .len (.t 5) true⟩, ⟨some 7, none, .bin false .lss (.t 4) (.t 6)⟩] none [0, 3, 7]) (.cond (.t 7) .skip (.exit 0))) (.seq (.block 1 (.seq (.reg [⟨some 10, none, .mv (.t 0)⟩, ⟨some 11, none, .mv (.t 3)⟩, ⟨some 12, none, .idx (.t 10) (.t 11)⟩, ⟨some 13, none, .bin false .lss (.t 12) (.k (.c (.int .u8 97)))⟩, ⟨some 14, none, .mv (.t 13)⟩, ⟨some 15, some (14, false), .mv (.t 0)⟩, ⟨some 16, some (14, false), .mv (.t 3)⟩, ⟨some 17, some (14, false), .idx (.t 15) (.t 16)⟩, ⟨some 18, some (14, false), .bin false .gtr (.t 17) (.k (.c (.int .u8 122)))⟩, ⟨some 19, none, .pick (.t 14) (.k (.c (.bool true))) (.t 18)⟩] none [0, 3, 19]) (.cond (.t 19) (.seq (.reg [⟨some 2, none, .mv (.k (.c (.bool false)))⟩] none [2]) .ret) .skip))) (.reg [⟨some 8, none, .mv (.t 3)⟩, ⟨some 9, none, .bin false .add (.t 8) (.k (.c (.int .i64 1)))⟩, ⟨some 3, none, .mv (.t 9)⟩] none [0, 3])))))) (.seq (.reg [⟨some 20, none, .mv (.t 0)⟩, ⟨some 21, none, .len (.t 20) true⟩, ⟨some 22, none, .bin false .leq (.t 21) (.k (.c (.int .i64 12)))⟩, ⟨some 2, none, .mv (.t 22)⟩] none [2]) .ret)))
theorem chk_l1Str : chkX Tryd.prog 23 (Tryd.f70.body.getD .skip) x_l1Str = true := by kernel_rfl
theorem rs_l1Str : okRs Tryd.prog Tryd.f70.results.toList [.tmp 2] = true := by kernel_rfl
theorem call_l1Str : okCallee Tryd.prog 70 = true := by kernel_rfl
def x_l1Keys : X := (.seq (.reg [⟨some 2, none, .mv (.k (.c (.bool false)))⟩] none [0]) (.seq (.seq (.reg [⟨some 3, none, .mv (.k (.c (.int .i64 0)))⟩] none [0, 3]) (.block 0 (.loop (.seq (.seq (.reg [⟨some 4, none, .mv (.t 3)⟩, ⟨some 5, none, .mv (.t 0)⟩, ⟨some 6, none, .len (.t 5) false⟩, ⟨some 7, none, .bin false .lss (.t 4) (.t 6)⟩] none [0, 3, 7]) (.cond (.t 7) .skip (.exit 0))) (.seq (.block 1 (.seq (.reg [⟨some 10, none, .mv (.t 0)⟩, ⟨some 11, none, .mv (.t 3)⟩, ⟨some 12, none, .ia (.t 10) (.t 11) 1⟩, ⟨some 13, none, .load (.t 12) none⟩, ⟨some 14, none, .call 70 [(.t 13)]⟩, ⟨some 15, none, .not (.t 14)⟩, ⟨some 16, none, .mv (.t 15)⟩, ⟨some 17, some (16, false), .mv (.t 3)⟩, ⟨some 18, some (16, false), .bin false .gtr (.t 17) (.k (.c (.int .i64 0)))⟩, ⟨some 19, some (16, false), .mv (.t 18)⟩, ⟨some 20, some (19, true), .mv (.t 0)⟩, ⟨some 21, some (19, true), .mv (.t 3)⟩, ⟨some 22, some (19, true), .ia (.t 20) (.t 21) 1⟩, ⟨some 23, some (19, true), .load (.t 22) none⟩, ⟨some 24, some (19, true), .mv (.t 0)⟩, ⟨some 25, some (19, true), .mv (.t 3)⟩, ⟨some 26, some (19, true), .bin false .sub (.t 25) (.k (.c (.int .i64 1)))⟩, ⟨some 27, some (19, true), .ia (.t 24) (.t 26) 1⟩, ⟨some 28, some (19, true), .load (.t 27) none⟩, ⟨some 29, some (19, true), .bin false .leq (.t 23) (.t 28)⟩, ⟨some 30, some (16, false), .pick (.t 19) (.t 29) (.k (.c (.bool false)))⟩, ⟨some 31, none, .pick (.t 16) (.k (.c (.bool true))) (.t 30)⟩] (some 19) [0, 3, 31]) (.cond (.t 31) (.seq (.reg [⟨some 2, none, .mv (.k (.c (.bool false)))⟩] none [2]) .ret) .skip))) (.reg [⟨some 8, none, .mv (.t 3)⟩, ⟨some 9, none, .bin false .add (.t 8) (.k (.c (.int .i64 1)))⟩, ⟨some 3, none, .mv (.t 9)⟩] none [0, 3])))))) (.seq (.reg [⟨some 2, none, .mv (.k (.c (.bool true)))⟩] none [2]) .ret)))
theorem chk_l1Keys : chkX Tryd.prog 32 (Tryd.f71.body.getD .skip) x_l1Keys = true := by kernel_rfl
theorem rs_l1Keys : okRs Tryd.prog Tryd.f71.results.toList [.tmp 2] = true := by kernel_rfl
theorem call_l1Keys : okCallee Tryd.prog 71 = true := by kernel_rfl
def x_l1Form : X := (.seq (.reg [⟨some 2, none, .box (.t 0) (some 5)⟩, ⟨some 4, none, .mv (.k (.c (.bool false)))⟩] none [1, 2]) (.seq (.seq (.reg [⟨some 6, none, .mv (.t 1)⟩, ⟨some 7, none, .bin false .lss (.t 6) (.k (.c (.int .i64 1)))⟩, ⟨some 8, none, .mv (.t 7)⟩, ⟨some 9, some (8, false), .fa (.t 2) 0⟩, ⟨some 10, some (8, false), .load (.t 9) none⟩, ⟨some 11, some (8, false), .bin false .neq (.t 10) (.k (.c (.int .i64 3)))⟩, ⟨some 12, some (8, false), .mv (.t 11)⟩, ⟨some 13, some (12, true), .fa (.t 2) 1⟩, ⟨some 14, some (12, true), .load (.t 13) none⟩, ⟨some 15, some (12, true), .bin false .neq (.t 14) (.k (.c (.int .i64 0)))⟩, ⟨some 16, some (8, false), .pick (.t 12) (.t 15) (.k (.c (.bool false)))⟩, ⟨some 17, none, .pick (.t 8) (.k (.c (.bool true))) (.t 16)⟩, ⟨some 18, none, .mv (.t 17)⟩, ⟨some 19, some (18, false), .fa (.t 2) 0⟩, ⟨some 20, some (18, false), .load (.t 19) none⟩, ⟨some 21, some (18, false), .bin false .neq (.t 20) (.k (.c (.int .i64 4)))⟩, ⟨some 22, some (18, false), .mv (.t 21)⟩, ⟨some 23, some (22, true), .fa (.t 2) 2⟩, ⟨some 24, some (22, true), .load (.t 23) none⟩, ⟨some 25, some (22, true), .bin false .neq (.t 24) (.k (.c (.str ⟨#[]⟩)))⟩, ⟨some 26, some (18, false), .pick (.t 22) (.t 25) (.k (.c (.bool false)))⟩, ⟨some 27, none, .pick (.t 18) (.k (.c (.bool true))) (.t 26)⟩, ⟨some 28, none, .mv (.t 27)⟩, ⟨some 29, some (28, false), .fa (.t 2) 0⟩, ⟨some 30, some (28, false), .load (.t 29) none⟩, ⟨some 31, some (28, false), .bin false .neq (.t 30) (.k (.c (.int .i64 6)))⟩, ⟨some 32, some (28, false), .mv (.t 31)⟩, ⟨some 33, some (32, true), .fa (.t 2) 3⟩, ⟨some 34, some (32, true), .load (.t 33) none⟩, ⟨some 35, some (32, true), .len (.t 34) false⟩, ⟨some 36, some (32, true), .bin false .gtr (.t 35) (.k (.c (.int .i64 0)))⟩, ⟨some 37, some (28, false), .pick (.t 32) (.t 36) (.k (.c (.bool false)))⟩, ⟨some 38, none, .pick (.t 28) (.k (.c (.bool true))) (.t 37)⟩, ⟨some 39, none, .mv (.t 38)⟩, ⟨some 40, some (39, false), .fa (.t 2) 0⟩, ⟨some 41, some (39, false), .load (.t 40) none⟩, ⟨some 42, some (39, false), .bin false .lss (.t 41) (.k (.c (.int .i64 5)))⟩, ⟨some 43, some (39, false), .mv (.t 42)⟩, ⟨some 44, some (43, true), .fa (.t 2) 4⟩, ⟨some 45, some (43, true), .load (.t 44) none⟩, ⟨some 46, some (43, true), .len (.t 45) false⟩, ⟨some 47, some (43, true), .bin false .gtr (.t 46) (.k (.c (.int .i64 0)))⟩, ⟨some 48, some (39, false), .pick (.t 43) (.t 47) (.k (.c (.bool false)))⟩, ⟨some 49, none, .pick (.t 39) (.k (.c (.bool true))) (.t 48)⟩] none [1, 2, 49]) (.cond (.t 49) (.seq (.reg [⟨some 4, none, .mv (.k (.c (.bool false)))⟩] none [4]) .ret) .skip)) (.seq (.seq (.reg [⟨some 50, none, .fa (.t 2) 0⟩, ⟨some 51, none, .load (.t 50) none⟩] none [1, 2, 51]) (.block 0 (.seq (.seq (.reg [⟨some 53, none, .bin false .eql (.t 51) (.k (.c (.int .i64 0)))⟩, ⟨some 52, none, .mv (.t 53)⟩] none [1, 2, 51, 52]) (.cond (.t 52) .skip (.seq (.reg [⟨some 54, none, .bin false .eql (.t 51) (.k (.c (.int .i64 1)))⟩, ⟨some 52, none, .mv (.t 54)⟩] none [1, 2, 51, 52]) (.cond (.t 52) .skip (.reg [⟨some 55, none, .bin false .eql (.t 51) (.k (.c (.int .i64 2)))⟩, ⟨some 52, none, .mv (.t 55)⟩] none [1, 2, 51, 52]))))) (.cond (.t 52) (.seq (.reg [⟨some 4, none, .mv (.k (.c (.bool true)))⟩] none [4]) .ret) (.seq (.reg [⟨some 57, none, .bin false .eql (.t 51) (.k (.c (.int .i64 3)))⟩, ⟨some 56, none, .mv (.t 57)⟩] none [1, 2, 51, 56]) (.cond (.t 56) (.seq (.reg [⟨some 58, none, .fa (.t 2) 1⟩, ⟨some 59, none, .load (.t 58) none⟩, ⟨some 60, none, .bin false .geq (.t 59) (.k (.c (.int .i64 (-1000000))))⟩, ⟨some 61, none, .mv (.t 60)⟩, ⟨some 62, some (61, true), .fa (.t 2) 1⟩, ⟨some 63, some (61, true), .load (.t 62) none⟩, ⟨some 64, some (61, true), .bin false .leq (.t 63) (.k (.c (.int .i64 1000000)))⟩, ⟨some 65, none, .pick (.t 61) (.t 64) (.k (.c (.bool false)))⟩, ⟨some 4, none, .mv (.t 65)⟩] none [4]) .ret) (.seq (.reg [⟨some 67, none, .bin false .eql (.t 51) (.k (.c (.int .i64 4)))⟩, ⟨some 66, none, .mv (.t 67)⟩] none [1, 2, 51, 66]) (.cond (.t 66) (.seq (.reg [⟨some 68, none, .fa (.t 2) 2⟩, ⟨some 69, none, .load (.t 68) none⟩, ⟨some 70, none, .call 70 [(.t 69)]⟩, ⟨some 4, none, .mv (.t 70)⟩] none [4]) .ret) (.seq (.reg [⟨some 72, none, .bin false .eql (.t 51) (.k (.c (.int .i64 6)))⟩, ⟨some 71, none, .mv (.t 72)⟩] none [1, 2, 51, 71]) (.cond (.t 71) (.seq (.reg [⟨some 73, none, .fa (.t 2) 3⟩, ⟨some 74, none, .load (.t 73) none⟩, ⟨some 75, none, .len (.t 74) false⟩, ⟨some 76, none, .fa (.t 2) 4⟩, ⟨some 77, none, .load (.t 76) none⟩, ⟨some 78, none, .len (.t 77) false⟩, ⟨some 79, none, .bin false .neq (.t 75) (.t 78)⟩, ⟨some 80, none, .mv (.t 79)⟩, ⟨some 81, some (80, false), .fa (.t 2) 3⟩, ⟨some 82, some (80, false), .load (.t 81) none⟩, ⟨some 83, some (80, false), .call 71 [(.t 82)]⟩, ⟨some 84, some (80, false), .not (.t 83)⟩, ⟨some 85, none, .pick (.t 80) (.k (.c (.bool true))) (.t 84)⟩] none [1, 2, 85]) (.cond (.t 85) (.seq (.reg [⟨some 4, none, .mv (.k (.c (.bool false)))⟩] none [4]) .ret) .skip)) (.seq (.reg [⟨some 87, none, .bin false .eql (.t 51) (.k (.c (.int .i64 5)))⟩, ⟨some 86, none, .mv (.t 87)⟩] none [1, 2, 86]) (.cond (.t 86) .skip (.seq (.reg [⟨some 4, none, .mv (.k (.c (.bool false)))⟩] none [4]) .ret))))))))))))) (.seq (.seq (.reg [⟨some 5, none, .mv (.k (.c (.int .i64 0)))⟩] none [1, 2, 5]) (.block 1 (.loop (.seq (.seq (.reg [⟨some 88, none, .mv (.t 5)⟩, ⟨some 89, none, .fa (.t 2) 4⟩, ⟨some 90, none, .load (.t 89) none⟩, ⟨some 91, none, .len (.t 90) false⟩, ⟨some 92, none, .bin false .lss (.t 88) (.t 91)⟩] none [1, 2, 5, 92]) (.cond (.t 92) .skip (.exit 1))) (.seq (.block 2 (.seq (.reg [⟨some 95, none, .fa (.t 2) 4⟩, ⟨some 96, none, .load (.t 95) none⟩, ⟨some 97, none, .mv (.t 5)⟩, ⟨some 98, none, .ia (.t 96) (.t 97) 5⟩, ⟨some 99, none, .load (.t 98) (some 5)⟩, ⟨some 100, none, .mv (.t 1)⟩, ⟨some 101, none, .bin false .sub (.t 100) (.k (.c (.int .i64 1)))⟩, ⟨some 102, none, .call 34 [(.t 99), (.t 101)]⟩, ⟨some 103, none, .not (.t 102)⟩] none [1, 2, 5, 103]) (.cond (.t 103) (.seq (.reg [⟨some 4, none, .mv (.k (.c (.bool false)))⟩] none [4]) .ret) .skip))) (.reg [⟨some 93, none, .mv (.t 5)⟩, ⟨some 94, none, .bin false .add (.t 93) (.k (.c (.int .i64 1)))⟩, ⟨some 5, none, .mv (.t 94)⟩] none [1, 2, 5])))))) (.seq (.reg [⟨some 4, none, .mv (.k (.c (.bool true)))⟩] none [4]) .ret)))))
theorem chk_l1Form : chkX Tryd.prog 104 (Tryd.f34.body.getD .skip) x_l1Form = true := by kernel_rfl
theorem rs_l1Form : okRs Tryd.prog Tryd.f34.results.toList [.tmp 4] = true := by kernel_rfl
theorem call_l1Form : okCallee Tryd.prog 34 = true := by kernel_rfl
def x_l1Many : X := (.seq (.reg [⟨some 2, none, .box (.t 0) (some 5)⟩, ⟨some 4, none, .mv (.k (.c (.int .i64 0)))⟩] none [1, 2]) (.seq (.reg [⟨some 5, none, .mv (.k (.c (.int .i64 1)))⟩] none [1, 2, 5]) (.seq (.seq (.reg [⟨some 6, none, .mv (.k (.c (.int .i64 0)))⟩] none [1, 2, 5, 6]) (.block 0 (.loop (.seq (.seq (.reg [⟨some 7, none, .mv (.t 6)⟩, ⟨some 8, none, .fa (.t 2) 4⟩, ⟨some 9, none, .load (.t 8) none⟩, ⟨some 10, none, .len (.t 9) false⟩, ⟨some 11, none, .bin false .lss (.t 7) (.t 10)⟩, ⟨some 12, none, .mv (.t 11)⟩, ⟨some 13, some (12, true), .mv (.t 1)⟩, ⟨some 14, some (12, true), .bin false .gtr (.t 13) (.k (.c (.int .i64 0)))⟩, ⟨some 15, none, .pick (.t 12) (.t 14) (.k (.c (.bool false)))⟩] none [1, 2, 5, 6, 15]) (.cond (.t 15) .skip (.exit 0))) (.seq (.block 1 (.reg [⟨some 18, none, .mv (.t 5)⟩, ⟨some 19, none, .fa (.t 2) 4⟩, ⟨some 20, none, .load (.t 19) none⟩, ⟨some 21, none, .mv (.t 6)⟩, ⟨some 22, none, .ia (.t 20) (.t 21) 5⟩, ⟨some 23, none, .load (.t 22) (some 5)⟩, ⟨some 24, none, .mv (.t 1)⟩, ⟨some 25, none, .bin false .sub (.t 24) (.k (.c (.int .i64 1)))⟩, ⟨some 26, none, .call 35 [(.t 23), (.t 25)]⟩, ⟨some 27, none, .bin false .add (.t 18) (.t 26)⟩, ⟨some 5, none, .mv (.t 27)⟩] none [1, 2, 5, 6])) (.reg [⟨some 16, none, .mv (.t 6)⟩, ⟨some 17, none, .bin false .add (.t 16) (.k (.c (.int .i64 1)))⟩, ⟨some 6, none, .mv (.t 17)⟩] none [1, 2, 5, 6])))))) (.seq (.reg [⟨some 28, none, .mv (.t 5)⟩, ⟨some 4, none, .mv (.t 28)⟩] none [4]) .ret))))
theorem chk_l1Many : chkX Tryd.prog 29 (Tryd.f35.body.getD .skip) x_l1Many = true := by kernel_rfl
theorem rs_l1Many : okRs Tryd.prog Tryd.f35.results.toList [.tmp 4] = true := by kernel_rfl
theorem call_l1Many : okCallee Tryd.prog 35 = true := by kernel_rfl
def x_ValOk : X := (.seq (.reg [⟨some 1, none, .box (.t 0) (some 5)⟩, ⟨some 2, none, .mv (.k (.c (.bool false)))⟩] none [1]) (.seq (.reg [⟨some 3, none, .load (.t 1) (some 5)⟩, ⟨some 4, none, .call 34 [(.t 3), (.k (.c (.int .i64 6)))]⟩, ⟨some 5, none, .mv (.t 4)⟩, ⟨some 6, some (5, true), .load (.t 1) (some 5)⟩, ⟨some 7, some (5, true), .call 35 [(.t 6), (.k (.c (.int .i64 6)))]⟩, ⟨some 8, some (5, true), .bin false .leq (.t 7) (.k (.c (.int .i64 60)))⟩, ⟨some 9, none, .pick (.t 5) (.t 8) (.k (.c (.bool false)))⟩, ⟨some 2, none, .mv (.t 9)⟩] none [2]) .ret))
theorem chk_ValOk : chkX Tryd.prog 10 (Tryd.f10.body.getD .skip) x_ValOk = true := by kernel_rfl
theorem rs_ValOk : okRs Tryd.prog Tryd.f10.results.toList [.tmp 2] = true := by kernel_rfl
theorem call_ValOk : okCallee Tryd.prog 10 = true := by kernel_rfl
noncomputable def spOkS  : Spec := Spec.of (ι := ByteArray) [false] (fun i => [.d (.one (.str i))]) (fun i => lenB 140737488355328 i.size) (fun i => [.d (.one (.bool (decide (okS i))))]) (fun _ => [.gone])
theorem spOkS_inj : ∀ i j : ByteArray, (fun (i : ByteArray) => ([.d (.one (.str i))] : List AV)) i = (fun (i : ByteArray) => ([.d (.one (.str i))] : List AV)) j -> i = j := by
 intro s s' h
 simpa [strs_eq, T.enc_eq, encL_eq, F.enc_eq, encF_eq, Tk.enc_eq, encTk_eq, Gn.enc_eq, ints_eq] using h
theorem spOkS_md  : (spOkS).md = [false] := rfl
theorem spOkS_pre  (s : ByteArray) : (spOkS).pre [.d (.one (.str s))] = (lenB 140737488355328 s.size) := Spec.of_pre' spOkS_inj s
theorem spOkS_alts  : (spOkS).alts = none := rfl
theorem spOkS_res  (s : ByteArray) : (spOkS).res [.d (.one (.str s))] = [.d (.one (.bool (decide (okS s))))] := Spec.of_res spOkS_inj s
theorem spOkS_out  (s : ByteArray) : (spOkS).out [.d (.one (.str s))] = [.gone] := Spec.of_out spOkS_inj s
theorem l1Str_sound : Sound Tryd.prog 70 spOkS := by
 refine sound_fam GOK.nil Tryd.func70 (c := Tryd.f70.body.getD .skip) rfl (n := 23) rfl chk_l1Str rs_l1Str (fun _ => by simp) ?_ ?_
 ·exact spOkS_inj
 ·intro s h1
  simp only [lenB] at h1
  simp only [x_l1Str, rg, go_sem, seval]
  refine pw_loop (ι := Nat) (fun i => s.size - i) (fun i => i <= s.size /\ ∀ x ∈ s.data.toList.take i, letter x)
   (fun i => ⟨[(0, .q (.c (.str s))), (3, .q (.c (.int .i64 i)))], [], []⟩) 0 ⟨Nat.zero_le _, by simp⟩ (Le.refl _) ?_
  rintro i ⟨hi, hall⟩
  rcases Nat.lt_or_ge i s.size with hlt | hge
  ·obtain ⟨x, hx, hb, hmem⟩ := byteAt_get hlt
   have a2 : ((i : Int) < (s.size : Int)) = True := by simp; omega
   simp only [go_sem, seval, rg, a2, hb]
   repeat' (first | with_reducible assumption | with_reducible refine And.intro ?_ ?_ | intro _)
   all_goals first | omega | skip
   ·rename_i hc ho
    have := ho.1 x hmem
    unfold letter at this; omega
   ·rename_i hc _
    refine ⟨i + 1, ⟨by omega, fun y hy => ?_⟩, by omega, Le.refl _⟩
    rw [List.take_add_one, hx] at hy
    rcases List.mem_append.1 hy with hy | hy
    ·exact hall y hy
    ·simp at hy; subst hy; unfold letter; omega
  ·have a2 : ((i : Int) < (s.size : Int)) = False := by simp; omega
   simp only [go_sem, seval, a2]
   rw [decide_eq_decide]
   unfold okS
   rw [List.take_of_length_le (by simpa using hge)] at hall
   constructor
   ·intro h; omega
   ·intro h; exact ⟨hall, by omega⟩
noncomputable def spOkKeys  : Spec := Spec.of (ι := (List ByteArray)) [false] (fun i => [.d (.one (.row 1 (strs i)))]) (fun i => strsFit 140737488355328 i) (fun i => [.d (.one (.bool (decide (okKeys i))))]) (fun _ => [.gone])
theorem spOkKeys_inj : ∀ i j : (List ByteArray), (fun (i : (List ByteArray)) => ([.d (.one (.row 1 (strs i)))] : List AV)) i = (fun (i : (List ByteArray)) => ([.d (.one (.row 1 (strs i)))] : List AV)) j -> i = j := by
 intro ks ks' h
 simpa [strs_eq, T.enc_eq, encL_eq, F.enc_eq, encF_eq, Tk.enc_eq, encTk_eq, Gn.enc_eq, ints_eq] using h
theorem spOkKeys_md  : (spOkKeys).md = [false] := rfl
theorem spOkKeys_pre  (ks : List ByteArray) : (spOkKeys).pre [.d (.one (.row 1 (strs ks)))] = (strsFit 140737488355328 ks) := Spec.of_pre' spOkKeys_inj ks
theorem spOkKeys_alts  : (spOkKeys).alts = none := rfl
theorem spOkKeys_res  (ks : List ByteArray) : (spOkKeys).res [.d (.one (.row 1 (strs ks)))] = [.d (.one (.bool (decide (okKeys ks))))] := Spec.of_res spOkKeys_inj ks
theorem spOkKeys_out  (ks : List ByteArray) : (spOkKeys).out [.d (.one (.row 1 (strs ks)))] = [.gone] := Spec.of_out spOkKeys_inj ks
theorem l1Keys_sound : Sound Tryd.prog 71 spOkKeys := by
 refine sound_fam (GOK.cons call_l1Str l1Str_sound GOK.nil) Tryd.func71 (c := Tryd.f71.body.getD .skip) rfl (n := 32) rfl chk_l1Keys rs_l1Keys (fun _ => by simp) ?_ ?_
 ·exact spOkKeys_inj
 ·rintro ks ⟨h1, h2⟩
  simp only [lenB] at h1
  simp only [x_l1Keys, rg, go_sem, seval]
  refine pw_loop (ι := Nat) (fun i => ks.length - i) (fun i => i <= ks.length /\ okKeysN ks i)
   (fun i => ⟨[(0, .q (.c (.row 1 (strs ks)))), (3, .q (.c (.int .i64 i)))], [], []⟩) 0 ⟨Nat.zero_le _, okKeysN_zero ks⟩ (Le.refl _) ?_
  rintro i ⟨hi, hall⟩
  rcases Nat.lt_or_ge i ks.length with hlt | hge
  ·obtain ⟨s, hs, _, hmem⟩ := drop_at hlt
   have a1 := strs_at hs
   have a2 : ((i : Int) < (ks.length : Int)) = True := by simp; omega
   have a3 := h2 s hmem
   have a5 : ((i : Int) - 1).toNat = i - 1 := by omega
   obtain ⟨s', a6, a7⟩ : ∃ s', (strs ks).getD (i - 1) [] = [C.str s'] /\ ks[i - 1]? = some s' := by
    obtain ⟨s', hs', _, _⟩ := drop_at (l := ks) (i := i - 1) (by omega)
    exact ⟨s', strs_at hs', hs'⟩
   simp only [go_sem, seval, rg, a1, a2, a5, a6, spOkS_md, spOkS_pre, spOkS_alts, spOkS_res, spOkS_out]
   repeat' (first | with_reducible assumption | with_reducible refine And.intro ?_ ?_ | intro _)
   all_goals first | omega | skip
   ·rename_i hc ho
    have e1 := okKeys_at ho hs
    rcases hc with hc | ⟨hc, h⟩
    ·exact hc e1
    ·exact (sl_tri s s').2 (okKeys_lt ho (by omega) a7 hs) h
   ·rename_i hc _
    refine ⟨i + 1, ⟨by omega, okKeysN_succ hall hs (Classical.byContradiction fun h => hc (.inl h)) (fun b hb hb' => ?_)⟩, by omega, Le.refl _⟩
    rw [a7] at hb'; cases hb'
    exact (sl_tri s s').1 (fun h => hc (.inr ⟨by omega, h⟩))
  ·have a2 : ((i : Int) < (ks.length : Int)) = False := by simp; omega
   simp only [go_sem, seval, a2]
   have : i = ks.length := by omega
   subst this
   have hall' : okKeys ks := hall
   exact hall'
noncomputable def spForm (k:Nat) : Spec := Spec.of (ι := T × Int) [false, false] (fun i => [.d (.agg i.1.enc), .d (.one (.int .i64 i.2))]) (fun i => (i.1.fit 140737488355328 /\ -1 <= i.2 /\ i.2 <= 1000) /\ SizeOf.sizeOf i.1 < k) (fun i => [.d (.one (.bool (decide (formT i.1 i.2))))]) (fun _ => [.gone, .gone])
theorem spForm_inj : ∀ i j : T × Int, (fun (i : T × Int) => ([.d (.agg i.1.enc), .d (.one (.int .i64 i.2))] : List AV)) i = (fun (i : T × Int) => ([.d (.agg i.1.enc), .d (.one (.int .i64 i.2))] : List AV)) j -> i = j := by
 rintro ⟨t, d⟩ ⟨t', d'⟩ h
 simp only [Prod.mk.injEq]
 simpa [strs_eq, T.enc_eq, encL_eq, F.enc_eq, encF_eq, Tk.enc_eq, encTk_eq, Gn.enc_eq, ints_eq] using h
theorem spForm_md (k:Nat) : (spForm k).md = [false, false] := rfl
theorem spForm_pre (k:Nat) (t : T) (d : Int) : (spForm k).pre [.d (.agg t.enc), .d (.one (.int .i64 d))] = ((t.fit 140737488355328 /\ -1 <= d /\ d <= 1000) /\ SizeOf.sizeOf t < k) := Spec.of_pre' spForm_inj (t, d)
theorem spForm_alts (k:Nat) : (spForm k).alts = none := rfl
theorem spForm_res (k:Nat) (t : T) (d : Int) : (spForm k).res [.d (.agg t.enc), .d (.one (.int .i64 d))] = [.d (.one (.bool (decide (formT t d))))] := Spec.of_res spForm_inj (t, d)
theorem spForm_out (k:Nat) (t : T) (d : Int) : (spForm k).out [.d (.agg t.enc), .d (.one (.int .i64 d))] = [.gone, .gone] := Spec.of_out spForm_inj (t, d)
set_option maxHeartbeats 1000000 in
theorem l1Form_sound (k : Nat) (hS : Sound Tryd.prog 34 (spForm k)) : Sound Tryd.prog 34 (spForm (k + 1)) := by
 refine sound_fam (GOK.cons (l := [(71, spOkKeys), (34, spForm k)]) call_l1Str l1Str_sound (GOK.cons call_l1Keys l1Keys_sound (GOK.cons call_l1Form hS GOK.nil))) Tryd.func34 (c := Tryd.f34.body.getD .skip) rfl (n := 104) rfl chk_l1Form rs_l1Form (fun _ => by simp) ?_ ?_
 ·exact spForm_inj
 ·rintro ⟨t, d⟩ ⟨⟨h1, h2, h3⟩, h4⟩
  obtain ⟨kk, n, s, ks, l⟩ := t
  simp only [T.fit, lenB] at h1
  obtain ⟨_, _, f1, f2, f3, f4⟩ := h1
  have e3 : SizeOf.sizeOf l < k := by have e : SizeOf.sizeOf (T.mk kk n s ks l) < k + 1 := h4
                                      rw [T.mk.sizeOf_spec] at e; omega
  simp only at h2 h3
  have hF : formT (T.mk kk n s ks l) d ↔ (1 <= d /\ (kk = 3 \/ n = 0) /\ (kk = 4 \/ s = ⟨#[]⟩) /\ (kk = 6 \/ ks.length = 0) /\ (5 <= kk \/ l.length = 0) /\ 0 <= kk /\ kk <= 6 /\ -1000000 <= n /\ n <= 1000000 /\ okS s /\ (kk = 6 -> ks.length = l.length /\ okKeys ks) /\ formL l (d - 1)) := by
   simp only [formT, List.length_eq_zero_iff]
  have hN := okS_nil
  have f1' : lenB 140737488355328 s.size := f1
  have hL : l.length = 0 -> formL l (d - 1) := formL_len
  simp only [x_l1Form, T.enc, go_sem, seval, rg, spOkS_md, spOkS_pre, spOkS_alts, spOkS_res, spOkS_out, spOkKeys_md, spOkKeys_pre, spOkKeys_alts, spOkKeys_res, spOkKeys_out]
  repeat' (first | with_reducible assumption | with_reducible refine And.intro ?_ ?_ | intro _)
  all_goals first | omega | (grind; done) | skip
  all_goals
   have hb : formT (T.mk kk n s ks l) d ↔ formL l (d - 1) := by grind
   have hd : 1 <= d := by omega
   clear hF hN hL
   repeat (rename_i hx; clear hx)
   refine pw_loop (ι := Nat) (fun i => l.length - i) (fun i => i <= l.length /\ ∀ t ∈ l.take i, formT t (d - 1))
    (fun i => ⟨[(1, .q (.c (.int .i64 d))), (2, .q (.box 2 0)), (5, .q (.c (.int .i64 i)))], [(2, [.c (.int .i64 kk), .c (.int .i64 n), .c (.str s), .c (.row 1 (strs ks)), .c (.row 5 (encL l))])], []⟩) 0 ⟨Nat.zero_le _, by simp⟩ (Le.refl _) ?_
   rintro i ⟨hi, hall⟩
   rcases Nat.lt_or_ge i l.length with hlt | hge
   ·obtain ⟨t, ht, _, hmem⟩ := drop_at hlt
    have a1 := encL_at ht
    have a2 : ((i : Int) < (l.length : Int)) = True := by simp; omega
    have a3 := fitL_mem f4 t hmem
    have a4 := size_mem hmem
    have a6 := T.enc_len t
    simp only [go_sem, seval, rg, a1, a2, a6, spForm_md, spForm_pre, spForm_alts, spForm_res, spForm_out]
    repeat' (first | with_reducible assumption | with_reducible refine And.intro ?_ ?_ | intro _)
    all_goals first | omega | skip
    ·rename_i hc ho
     exact hc (formL_mem.1 (hb.1 ho) t hmem)
    ·rename_i hc _
     refine ⟨i + 1, ⟨by omega, fun y hy => ?_⟩, by omega, Le.refl _⟩
     rw [List.take_add_one, ht] at hy
     rcases List.mem_append.1 hy with hy | hy
     ·exact hall y hy
     ·simp at hy; subst hy; exact Classical.not_not.1 hc
   ·have a2 : ((i : Int) < (l.length : Int)) = False := by simp; omega
    simp only [go_sem, seval, rg, a2]
    rw [List.take_of_length_le hge] at hall
    exact hb.2 (formL_mem.2 hall)
noncomputable def spMany (k:Nat) : Spec := Spec.of (ι := T × Int) [false, false] (fun i => [.d (.agg i.1.enc), .d (.one (.int .i64 i.2))]) (fun i => (i.1.fit 140737488355328 /\ sizeT i.1 <= 1048577 /\ -1 <= i.2 /\ i.2 <= 1000) /\ SizeOf.sizeOf i.1 < k) (fun i => [.d (.one (.int .i64 (manyT i.1 i.2)))]) (fun _ => [.gone, .gone])
theorem spMany_inj : ∀ i j : T × Int, (fun (i : T × Int) => ([.d (.agg i.1.enc), .d (.one (.int .i64 i.2))] : List AV)) i = (fun (i : T × Int) => ([.d (.agg i.1.enc), .d (.one (.int .i64 i.2))] : List AV)) j -> i = j := by
 rintro ⟨t, d⟩ ⟨t', d'⟩ h
 simp only [Prod.mk.injEq]
 simpa [strs_eq, T.enc_eq, encL_eq, F.enc_eq, encF_eq, Tk.enc_eq, encTk_eq, Gn.enc_eq, ints_eq] using h
theorem spMany_md (k:Nat) : (spMany k).md = [false, false] := rfl
theorem spMany_pre (k:Nat) (t : T) (d : Int) : (spMany k).pre [.d (.agg t.enc), .d (.one (.int .i64 d))] = ((t.fit 140737488355328 /\ sizeT t <= 1048577 /\ -1 <= d /\ d <= 1000) /\ SizeOf.sizeOf t < k) := Spec.of_pre' spMany_inj (t, d)
theorem spMany_alts (k:Nat) : (spMany k).alts = none := rfl
theorem spMany_res (k:Nat) (t : T) (d : Int) : (spMany k).res [.d (.agg t.enc), .d (.one (.int .i64 d))] = [.d (.one (.int .i64 (manyT t d)))] := Spec.of_res spMany_inj (t, d)
theorem spMany_out (k:Nat) (t : T) (d : Int) : (spMany k).out [.d (.agg t.enc), .d (.one (.int .i64 d))] = [.gone, .gone] := Spec.of_out spMany_inj (t, d)
theorem l1Many_sound (k : Nat) (hS : Sound Tryd.prog 35 (spMany k)) : Sound Tryd.prog 35 (spMany (k + 1)) := by
 refine sound_fam (GOK.cons call_l1Many hS GOK.nil) Tryd.func35 (c := Tryd.f35.body.getD .skip) rfl (n := 29) rfl chk_l1Many rs_l1Many (fun _ => by simp) ?_ ?_
 ·exact spMany_inj
 ·rintro ⟨t, d⟩ ⟨⟨h1, h2, h3, h3'⟩, h4⟩
  obtain ⟨kk, n, s, ks, l⟩ := t
  simp only [T.fit, lenB] at h1
  obtain ⟨_, _, f1, f2, f3, f4⟩ := h1
  have e3 : SizeOf.sizeOf l < k := by have e : SizeOf.sizeOf (T.mk kk n s ks l) < k + 1 := h4
                                      rw [T.mk.sizeOf_spec] at e; omega
  simp only [sizeT] at h2 h3 h3'
  simp only [x_l1Many, T.enc, go_sem, seval, rg, manyT]
  refine pw_loop (ι := Nat × Int) (fun i => l.length - i.1) (fun i => i.1 <= l.length /\ 1 <= i.2 /\ i.2 + manyL (l.drop i.1) d = 1 + manyL l d /\ i.2 + sizeL (l.drop i.1) <= 1 + sizeL l)
   (fun i => ⟨[(1, .q (.c (.int .i64 d))), (2, .q (.box 2 0)), (5, .q (.c (.int .i64 i.2))), (6, .q (.c (.int .i64 i.1)))], [(2, [.c (.int .i64 kk), .c (.int .i64 n), .c (.str s), .c (.row 1 (strs ks)), .c (.row 5 (encL l))])], []⟩) (0, 1) ⟨Nat.zero_le _, by simp, by simp, by simp⟩ (Le.refl _) ?_
  rintro ⟨i, m⟩ ⟨hi, hm, hsum, hsz⟩
  simp only at hi hm hsum hsz
  have hz := fun l => manyL_le l d
  rcases Nat.lt_or_ge i l.length with hlt | hge
  ·obtain ⟨t, ht, hdr, hmem⟩ := drop_at hlt
   have a1 := encL_at ht
   have a2 : ((i : Int) < (l.length : Int)) = True := by simp; omega
   have a3 := fitL_mem f4 t hmem
   have a4 := size_mem hmem
   have a5 := sizeL_at ht
   have a6 := T.enc_len t
   have a7 := manyT_le t (d - 1)
   have a8 := hz (l.drop (i + 1))
   rw [hdr] at hsum hsz
   simp only [manyL, sizeL] at hsum hsz
   simp only [go_sem, seval, rg, a1, a2, a6, spMany_md, spMany_pre, spMany_alts, spMany_res, spMany_out]
   repeat' (first | with_reducible assumption | with_reducible refine And.intro ?_ ?_ | intro _)
   all_goals first | omega | skip
   ·rename_i hd _ _
    rw [if_pos (by omega)] at hsum
    refine ⟨(i + 1, m + manyT t (d - 1)), ⟨by simp only; omega, by simp only; omega, by simp only; omega, by simp only; omega⟩, by simp only; omega, Le.refl _⟩
  ·have a2 : ((i : Int) < (l.length : Int)) = False := by simp; omega
   rw [List.drop_eq_nil_of_le hge] at hsum
   simp only [manyL] at hsum
   simp only [go_sem, seval, rg, a2]
   repeat' (first | with_reducible assumption | with_reducible refine And.intro ?_ ?_ | intro _)
   all_goals first | omega | skip
theorem form_sound : ∀ k, Sound Tryd.prog 34 (spForm k) := fun k => Nat.rec Sound.none (fun k ih => l1Form_sound k ih) k
theorem many_sound : ∀ k, Sound Tryd.prog 35 (spMany k) := fun k => Nat.rec Sound.none (fun k ih => l1Many_sound k ih) k
noncomputable def spFormV  : Spec := Spec.of (ι := T × Int) [false, false] (fun i => [.d (.agg i.1.enc), .d (.one (.int .i64 i.2))]) (fun i => i.1.fit 140737488355328 /\ -1 <= i.2 /\ i.2 <= 1000) (fun i => [.d (.one (.bool (decide (formT i.1 i.2))))]) (fun _ => [.gone, .gone])
theorem spFormV_inj : ∀ i j : T × Int, (fun (i : T × Int) => ([.d (.agg i.1.enc), .d (.one (.int .i64 i.2))] : List AV)) i = (fun (i : T × Int) => ([.d (.agg i.1.enc), .d (.one (.int .i64 i.2))] : List AV)) j -> i = j := by
 rintro ⟨t, d⟩ ⟨t', d'⟩ h
 simp only [Prod.mk.injEq]
 simpa [strs_eq, T.enc_eq, encL_eq, F.enc_eq, encF_eq, Tk.enc_eq, encTk_eq, Gn.enc_eq, ints_eq] using h
theorem spFormV_md  : (spFormV).md = [false, false] := rfl
theorem spFormV_pre  (t : T) (d : Int) : (spFormV).pre [.d (.agg t.enc), .d (.one (.int .i64 d))] = (t.fit 140737488355328 /\ -1 <= d /\ d <= 1000) := Spec.of_pre' spFormV_inj (t, d)
theorem spFormV_alts  : (spFormV).alts = none := rfl
theorem spFormV_res  (t : T) (d : Int) : (spFormV).res [.d (.agg t.enc), .d (.one (.int .i64 d))] = [.d (.one (.bool (decide (formT t d))))] := Spec.of_res spFormV_inj (t, d)
theorem spFormV_out  (t : T) (d : Int) : (spFormV).out [.d (.agg t.enc), .d (.one (.int .i64 d))] = [.gone, .gone] := Spec.of_out spFormV_inj (t, d)
noncomputable def spManyV  : Spec := Spec.of (ι := T × Int) [false, false] (fun i => [.d (.agg i.1.enc), .d (.one (.int .i64 i.2))]) (fun i => i.1.fit 140737488355328 /\ sizeT i.1 <= 1048577 /\ -1 <= i.2 /\ i.2 <= 1000) (fun i => [.d (.one (.int .i64 (manyT i.1 i.2)))]) (fun _ => [.gone, .gone])
theorem spManyV_inj : ∀ i j : T × Int, (fun (i : T × Int) => ([.d (.agg i.1.enc), .d (.one (.int .i64 i.2))] : List AV)) i = (fun (i : T × Int) => ([.d (.agg i.1.enc), .d (.one (.int .i64 i.2))] : List AV)) j -> i = j := by
 rintro ⟨t, d⟩ ⟨t', d'⟩ h
 simp only [Prod.mk.injEq]
 simpa [strs_eq, T.enc_eq, encL_eq, F.enc_eq, encF_eq, Tk.enc_eq, encTk_eq, Gn.enc_eq, ints_eq] using h
theorem spManyV_md  : (spManyV).md = [false, false] := rfl
theorem spManyV_pre  (t : T) (d : Int) : (spManyV).pre [.d (.agg t.enc), .d (.one (.int .i64 d))] = (t.fit 140737488355328 /\ sizeT t <= 1048577 /\ -1 <= d /\ d <= 1000) := Spec.of_pre' spManyV_inj (t, d)
theorem spManyV_alts  : (spManyV).alts = none := rfl
theorem spManyV_res  (t : T) (d : Int) : (spManyV).res [.d (.agg t.enc), .d (.one (.int .i64 d))] = [.d (.one (.int .i64 (manyT t d)))] := Spec.of_res spManyV_inj (t, d)
theorem spManyV_out  (t : T) (d : Int) : (spManyV).out [.d (.agg t.enc), .d (.one (.int .i64 d))] = [.gone, .gone] := Spec.of_out spManyV_inj (t, d)
theorem formV_sound : Sound Tryd.prog 34 spFormV := Sound.all (μ := fun i => SizeOf.sizeOf i.1) form_sound
theorem manyV_sound : Sound Tryd.prog 35 spManyV := Sound.all (μ := fun i => SizeOf.sizeOf i.1) many_sound
noncomputable def spOkT  : Spec := Spec.of (ι := T) [false] (fun i => [.d (.agg i.enc)]) (fun i => i.fit 140737488355328 /\ sizeT i <= 1048577) (fun i => [.d (.one (.bool (decide (okT i))))]) (fun _ => [.gone])
theorem spOkT_inj : ∀ i j : T, (fun (i : T) => ([.d (.agg i.enc)] : List AV)) i = (fun (i : T) => ([.d (.agg i.enc)] : List AV)) j -> i = j := by
 intro t t' h
 simpa [strs_eq, T.enc_eq, encL_eq, F.enc_eq, encF_eq, Tk.enc_eq, encTk_eq, Gn.enc_eq, ints_eq] using h
theorem spOkT_md  : (spOkT).md = [false] := rfl
theorem spOkT_pre  (t : T) : (spOkT).pre [.d (.agg t.enc)] = (t.fit 140737488355328 /\ sizeT t <= 1048577) := Spec.of_pre' spOkT_inj t
theorem spOkT_alts  : (spOkT).alts = none := rfl
theorem spOkT_res  (t : T) : (spOkT).res [.d (.agg t.enc)] = [.d (.one (.bool (decide (okT t))))] := Spec.of_res spOkT_inj t
theorem spOkT_out  (t : T) : (spOkT).out [.d (.agg t.enc)] = [.gone] := Spec.of_out spOkT_inj t
theorem sOkT_sound : Sound Tryd.prog 10 spOkT := by
 refine sound_fam (GOK.cons (l := [(35, spManyV)]) call_l1Form formV_sound (GOK.cons call_l1Many manyV_sound GOK.nil)) Tryd.func10 (c := Tryd.f10.body.getD .skip) rfl (n := 10) rfl chk_ValOk rs_ValOk (fun _ => by simp) ?_ ?_
 ·exact spOkT_inj
 ·rintro t ⟨h1, h2⟩
  have a6 := T.enc_len t
  simp only [x_ValOk, go_sem, seval, rg, a6, List.length_map, List.drop_zero, spFormV_md, spFormV_pre, spFormV_alts, spFormV_res, spFormV_out, spManyV_md, spManyV_pre, spManyV_alts, spManyV_res, spManyV_out]
  repeat' (first | with_reducible assumption | with_reducible refine And.intro ?_ ?_ | intro _)
  all_goals first | omega | skip
  exact decide_eq_decide.2 Iff.rfl
end Go.Proofs.Pw
namespace Go.Proofs.Pw
variable [Globs]
def x_within : X := (.seq (.reg [⟨some 6, none, .mv (.k (.c (.bool false)))⟩] none [0, 1, 2]) (.seq (.reg [⟨some 7, none, .mv (.t 0)⟩, ⟨some 8, none, .mv (.t 1)⟩, ⟨some 9, none, .bin false .geq (.t 7) (.t 8)⟩, ⟨some 10, none, .mv (.t 9)⟩, ⟨some 11, some (10, true), .mv (.t 0)⟩, ⟨some 12, some (10, true), .mv (.t 2)⟩, ⟨some 13, some (10, true), .bin false .leq (.t 11) (.t 12)⟩, ⟨some 14, none, .pick (.t 10) (.t 13) (.k (.c (.bool false)))⟩, ⟨some 6, none, .mv (.t 14)⟩] none [6]) .ret))
theorem chk_within : chkX Tryd.prog 15 (Tryd.f57.body.getD .skip) x_within = true := by kernel_rfl
theorem rs_within : okRs Tryd.prog Tryd.f57.results.toList [.tmp 6] = true := by kernel_rfl
theorem call_within : okCallee Tryd.prog 57 = true := by kernel_rfl
def x_textOk : X := (.seq (.reg [⟨some 2, none, .mv (.k (.c (.bool false)))⟩] none [0]) (.seq (.seq (.reg [⟨some 4, none, .mv (.t 0)⟩, ⟨some 5, none, .len (.t 4) true⟩, ⟨some 6, none, .mv (.k (.c (.int .i64 0)))⟩] none [0, 5, 6]) (.block 0 (.loop (.seq (.reg [⟨some 7, none, .bin false .lss (.t 6) (.t 5)⟩] none [0, 5, 6, 7]) (.seq (.cond (.t 7) .skip (.exit 0)) (.seq (.block 1 (.seq (.reg [⟨some 8, none, .mv (.t 6)⟩, ⟨some 3, none, .mv (.t 8)⟩] none [0, 3, 5, 6]) (.seq (.reg [⟨some 9, none, .mv (.t 0)⟩, ⟨some 10, none, .mv (.t 3)⟩, ⟨some 11, none, .idx (.t 9) (.t 10)⟩, ⟨some 12, none, .bin false .lss (.t 11) (.k (.c (.int .u8 97)))⟩, ⟨some 13, none, .mv (.t 12)⟩, ⟨some 14, some (13, false), .mv (.t 0)⟩, ⟨some 15, some (13, false), .mv (.t 3)⟩, ⟨some 16, some (13, false), .idx (.t 14) (.t 15)⟩, ⟨some 17, some (13, false), .bin false .gtr (.t 16) (.k (.c (.int .u8 122)))⟩, ⟨some 18, none, .pick (.t 13) (.k (.c (.bool true))) (.t 17)⟩] none [0, 5, 6, 18]) (.cond (.t 18) (.seq (.reg [⟨some 2, none, .mv (.k (.c (.bool false)))⟩] none [2]) .ret) .skip)))) (.reg [⟨some 19, none, .bin false .add (.t 6) (.k (.c (.int .i64 1)))⟩, ⟨some 6, none, .mv (.t 19)⟩] none [0, 5, 6]))))))) (.seq (.reg [⟨some 20, none, .mv (.t 0)⟩, ⟨some 21, none, .len (.t 20) true⟩, ⟨some 22, none, .bin false .leq (.t 21) (.k (.c (.int .i64 12)))⟩, ⟨some 2, none, .mv (.t 22)⟩] none [2]) .ret)))
theorem chk_textOk : chkX Tryd.prog 23 (Tryd.f56.body.getD .skip) x_textOk = true := by kernel_rfl
theorem rs_textOk : okRs Tryd.prog Tryd.f56.results.toList [.tmp 2] = true := by kernel_rfl
theorem call_textOk : okCallee Tryd.prog 56 = true := by kernel_rfl
def x_ok : X := (.seq (.reg [⟨some 3, none, .box (.t 0) (some 5)⟩, ⟨some 6, none, .mv (.k (.c (.bool false)))⟩] none [1, 2, 3]) (.seq (.reg [⟨some 11, none, .mv (.t 2)⟩, ⟨some 12, none, .nilc (.t 11)⟩, ⟨some 13, none, .load (.t 12) none⟩, ⟨some 14, none, .bin false .sub (.t 13) (.k (.c (.int .i64 1)))⟩, ⟨some 15, none, .nilc (.t 11)⟩, ⟨none, none, .st (.t 15) (.t 14) none⟩] none [1, 2, 3]) (.seq (.seq (.reg [⟨some 16, none, .mv (.t 2)⟩, ⟨some 17, none, .nilc (.t 16)⟩, ⟨some 18, none, .load (.t 17) none⟩, ⟨some 19, none, .bin false .lss (.t 18) (.k (.c (.int .i64 0)))⟩, ⟨some 20, none, .mv (.t 19)⟩, ⟨some 21, some (20, false), .mv (.t 1)⟩, ⟨some 22, some (20, false), .bin false .gtr (.t 21) (.k (.c (.int .i64 6)))⟩, ⟨some 23, none, .pick (.t 20) (.k (.c (.bool true))) (.t 22)⟩] none [1, 2, 3, 23]) (.cond (.t 23) (.seq (.reg [⟨some 6, none, .mv (.k (.c (.bool false)))⟩] none [6]) .ret) .skip)) (.seq (.seq (.reg [⟨some 24, none, .fa (.t 3) 0⟩, ⟨some 25, none, .load (.t 24) none⟩, ⟨some 26, none, .bin false .neq (.t 25) (.k (.c (.int .i64 3)))⟩, ⟨some 27, none, .mv (.t 26)⟩, ⟨some 28, some (27, true), .fa (.t 3) 1⟩, ⟨some 29, some (27, true), .load (.t 28) none⟩, ⟨some 30, some (27, true), .bin false .neq (.t 29) (.k (.c (.int .i64 0)))⟩, ⟨some 31, none, .pick (.t 27) (.t 30) (.k (.c (.bool false)))⟩, ⟨some 32, none, .mv (.t 31)⟩, ⟨some 33, some (32, false), .fa (.t 3) 0⟩, ⟨some 34, some (32, false), .load (.t 33) none⟩, ⟨some 35, some (32, false), .bin false .neq (.t 34) (.k (.c (.int .i64 4)))⟩, ⟨some 36, some (32, false), .mv (.t 35)⟩, ⟨some 37, some (36, true), .fa (.t 3) 2⟩, ⟨some 38, some (36, true), .load (.t 37) none⟩, ⟨some 39, some (36, true), .bin false .neq (.t 38) (.k (.c (.str ⟨#[]⟩)))⟩, ⟨some 40, some (32, false), .pick (.t 36) (.t 39) (.k (.c (.bool false)))⟩, ⟨some 41, none, .pick (.t 32) (.k (.c (.bool true))) (.t 40)⟩, ⟨some 42, none, .mv (.t 41)⟩, ⟨some 43, some (42, false), .fa (.t 3) 0⟩, ⟨some 44, some (42, false), .load (.t 43) none⟩, ⟨some 45, some (42, false), .bin false .neq (.t 44) (.k (.c (.int .i64 6)))⟩, ⟨some 46, some (42, false), .mv (.t 45)⟩, ⟨some 47, some (46, true), .fa (.t 3) 3⟩, ⟨some 48, some (46, true), .load (.t 47) none⟩, ⟨some 49, some (46, true), .len (.t 48) false⟩, ⟨some 50, some (46, true), .bin false .gtr (.t 49) (.k (.c (.int .i64 0)))⟩, ⟨some 51, some (42, false), .pick (.t 46) (.t 50) (.k (.c (.bool false)))⟩, ⟨some 52, none, .pick (.t 42) (.k (.c (.bool true))) (.t 51)⟩, ⟨some 53, none, .mv (.t 52)⟩, ⟨some 54, some (53, false), .fa (.t 3) 0⟩, ⟨some 55, some (53, false), .load (.t 54) none⟩, ⟨some 56, some (53, false), .bin false .lss (.t 55) (.k (.c (.int .i64 5)))⟩, ⟨some 57, some (53, false), .mv (.t 56)⟩, ⟨some 58, some (57, true), .fa (.t 3) 4⟩, ⟨some 59, some (57, true), .load (.t 58) none⟩, ⟨some 60, some (57, true), .len (.t 59) false⟩, ⟨some 61, some (57, true), .bin false .gtr (.t 60) (.k (.c (.int .i64 0)))⟩, ⟨some 62, some (53, false), .pick (.t 57) (.t 61) (.k (.c (.bool false)))⟩, ⟨some 63, none, .pick (.t 53) (.k (.c (.bool true))) (.t 62)⟩] none [1, 2, 3, 63]) (.cond (.t 63) (.seq (.reg [⟨some 6, none, .mv (.k (.c (.bool false)))⟩] none [6]) .ret) .skip)) (.seq (.seq (.reg [⟨some 64, none, .fa (.t 3) 0⟩, ⟨some 65, none, .load (.t 64) none⟩, ⟨some 66, none, .call 57 [(.t 65), (.k (.c (.int .i64 0))), (.k (.c (.int .i64 6)))]⟩, ⟨some 67, none, .not (.t 66)⟩, ⟨some 68, none, .mv (.t 67)⟩, ⟨some 69, some (68, false), .fa (.t 3) 1⟩, ⟨some 70, some (68, false), .load (.t 69) none⟩, ⟨some 71, some (68, false), .call 57 [(.t 70), (.k (.c (.int .i64 (-1000000)))), (.k (.c (.int .i64 1000000)))]⟩, ⟨some 72, some (68, false), .not (.t 71)⟩, ⟨some 73, none, .pick (.t 68) (.k (.c (.bool true))) (.t 72)⟩, ⟨some 74, none, .mv (.t 73)⟩, ⟨some 75, some (74, false), .fa (.t 3) 2⟩, ⟨some 76, some (74, false), .load (.t 75) none⟩, ⟨some 77, some (74, false), .call 56 [(.t 76)]⟩, ⟨some 78, some (74, false), .not (.t 77)⟩, ⟨some 79, none, .pick (.t 74) (.k (.c (.bool true))) (.t 78)⟩, ⟨some 80, none, .mv (.t 79)⟩, ⟨some 81, some (80, false), .fa (.t 3) 0⟩, ⟨some 82, some (80, false), .load (.t 81) none⟩, ⟨some 83, some (80, false), .bin false .eql (.t 82) (.k (.c (.int .i64 6)))⟩, ⟨some 84, some (80, false), .mv (.t 83)⟩, ⟨some 85, some (84, true), .fa (.t 3) 3⟩, ⟨some 86, some (84, true), .load (.t 85) none⟩, ⟨some 87, some (84, true), .len (.t 86) false⟩, ⟨some 88, some (84, true), .fa (.t 3) 4⟩, ⟨some 89, some (84, true), .load (.t 88) none⟩, ⟨some 90, some (84, true), .len (.t 89) false⟩, ⟨some 91, some (84, true), .bin false .neq (.t 87) (.t 90)⟩, ⟨some 92, some (80, false), .pick (.t 84) (.t 91) (.k (.c (.bool false)))⟩, ⟨some 93, none, .pick (.t 80) (.k (.c (.bool true))) (.t 92)⟩] none [1, 2, 3, 93]) (.cond (.t 93) (.seq (.reg [⟨some 6, none, .mv (.k (.c (.bool false)))⟩] none [6]) .ret) .skip)) (.seq (.seq (.reg [⟨some 94, none, .fa (.t 3) 3⟩, ⟨some 95, none, .load (.t 94) none⟩, ⟨some 96, none, .len (.t 95) false⟩, ⟨some 97, none, .mv (.k (.c (.int .i64 0)))⟩] none [1, 2, 3, 95, 96, 97]) (.block 0 (.loop (.seq (.reg [⟨some 98, none, .bin false .lss (.t 97) (.t 96)⟩] none [1, 2, 3, 95, 96, 97, 98]) (.seq (.cond (.t 98) .skip (.exit 0)) (.seq (.block 1 (.seq (.reg [⟨some 99, none, .mv (.t 97)⟩, ⟨some 100, none, .ia (.t 95) (.t 97) 1⟩, ⟨some 101, none, .load (.t 100) none⟩, ⟨some 7, none, .mv (.t 99)⟩, ⟨some 8, none, .mv (.t 101)⟩] none [1, 2, 3, 7, 8, 95, 96, 97]) (.seq (.reg [⟨some 102, none, .mv (.t 8)⟩, ⟨some 103, none, .call 56 [(.t 102)]⟩, ⟨some 104, none, .not (.t 103)⟩, ⟨some 105, none, .mv (.t 104)⟩, ⟨some 106, some (105, false), .mv (.t 7)⟩, ⟨some 107, some (105, false), .bin false .gtr (.t 106) (.k (.c (.int .i64 0)))⟩, ⟨some 108, some (105, false), .mv (.t 107)⟩, ⟨some 109, some (108, true), .fa (.t 3) 3⟩, ⟨some 110, some (108, true), .load (.t 109) none⟩, ⟨some 111, some (108, true), .mv (.t 7)⟩, ⟨some 112, some (108, true), .bin false .sub (.t 111) (.k (.c (.int .i64 1)))⟩, ⟨some 113, some (108, true), .ia (.t 110) (.t 112) 1⟩, ⟨some 114, some (108, true), .load (.t 113) none⟩, ⟨some 115, some (108, true), .mv (.t 8)⟩, ⟨some 116, some (108, true), .bin false .geq (.t 114) (.t 115)⟩, ⟨some 117, some (105, false), .pick (.t 108) (.t 116) (.k (.c (.bool false)))⟩, ⟨some 118, none, .pick (.t 105) (.k (.c (.bool true))) (.t 117)⟩] none [1, 2, 3, 95, 96, 97, 118]) (.cond (.t 118) (.seq (.reg [⟨some 6, none, .mv (.k (.c (.bool false)))⟩] none [6]) .ret) .skip)))) (.reg [⟨some 119, none, .bin false .add (.t 97) (.k (.c (.int .i64 1)))⟩, ⟨some 97, none, .mv (.t 119)⟩] none [1, 2, 3, 95, 96, 97]))))))) (.seq (.seq (.reg [⟨some 120, none, .fa (.t 3) 4⟩, ⟨some 121, none, .load (.t 120) none⟩, ⟨some 122, none, .len (.t 121) false⟩, ⟨some 123, none, .mv (.k (.c (.int .i64 0)))⟩] none [1, 2, 121, 122, 123]) (.block 2 (.loop (.seq (.reg [⟨some 124, none, .bin false .lss (.t 123) (.t 122)⟩] none [1, 2, 121, 122, 123, 124]) (.seq (.cond (.t 124) .skip (.exit 2)) (.seq (.block 3 (.seq (.reg [⟨some 125, none, .ia (.t 121) (.t 123) 5⟩, ⟨some 126, none, .load (.t 125) (some 5)⟩, ⟨some 10, none, .alloc [(.c (.int .i64 0)), (.c (.int .i64 0)), (.c (.str ⟨#[]⟩)), (.z 1), (.z 5)]⟩, ⟨none, none, .st (.t 10) (.t 126) (some 5)⟩] none [1, 2, 10, 121, 122, 123]) (.seq (.reg [⟨some 127, none, .load (.t 10) (some 5)⟩, ⟨some 128, none, .mv (.t 1)⟩, ⟨some 129, none, .bin false .add (.t 128) (.k (.c (.int .i64 1)))⟩, ⟨some 130, none, .mv (.t 2)⟩, ⟨some 131, none, .call 38 [(.t 127), (.t 129), (.t 130)]⟩, ⟨some 132, none, .not (.t 131)⟩] none [1, 2, 121, 122, 123, 132]) (.cond (.t 132) (.seq (.reg [⟨some 6, none, .mv (.k (.c (.bool false)))⟩] none [6]) .ret) .skip)))) (.reg [⟨some 133, none, .bin false .add (.t 123) (.k (.c (.int .i64 1)))⟩, ⟨some 123, none, .mv (.t 133)⟩] none [1, 2, 121, 122, 123]))))))) (.seq (.reg [⟨some 6, none, .mv (.k (.c (.bool true)))⟩] none [6]) .ret))))))))
theorem chk_ok : chkX Tryd.prog 134 (Tryd.f38.body.getD .skip) x_ok = true := by kernel_rfl
theorem rs_ok : okRs Tryd.prog Tryd.f38.results.toList [.tmp 6] = true := by kernel_rfl
theorem call_ok : okCallee Tryd.prog 38 = true := by kernel_rfl
def x_ValOkI : X := (.seq (.reg [⟨some 1, none, .box (.t 0) (some 5)⟩, ⟨some 2, none, .mv (.k (.c (.bool false)))⟩] none [1]) (.seq (.reg [⟨some 3, none, .alloc [(.c (.int .i64 0))]⟩, ⟨none, none, .st (.t 3) (.k (.c (.int .i64 60))) none⟩] none [1, 3]) (.seq (.reg [⟨some 4, none, .load (.t 1) (some 5)⟩, ⟨some 5, none, .call 38 [(.t 4), (.k (.c (.int .i64 1))), (.t 3)]⟩, ⟨some 2, none, .mv (.t 5)⟩] none [2]) .ret)))
theorem chk_ValOkI : chkX Tryd.prog 6 (Tryd.f12.body.getD .skip) x_ValOkI = true := by kernel_rfl
theorem rs_ValOkI : okRs Tryd.prog Tryd.f12.results.toList [.tmp 2] = true := by kernel_rfl
theorem call_ValOkI : okCallee Tryd.prog 12 = true := by kernel_rfl
noncomputable def spWithin  : Spec := Spec.of (ι := Int × Int × Int) [false, false, false] (fun i => [.d (.one (.int .i64 i.1)), .d (.one (.int .i64 i.2.1)), .d (.one (.int .i64 i.2.2))]) (fun _ => True) (fun i => [.d (.one (.bool (decide (i.2.1 <= i.1 /\ i.1 <= i.2.2))))]) (fun _ => [.gone, .gone, .gone])
theorem spWithin_inj : ∀ i j : Int × Int × Int, (fun (i : Int × Int × Int) => ([.d (.one (.int .i64 i.1)), .d (.one (.int .i64 i.2.1)), .d (.one (.int .i64 i.2.2))] : List AV)) i = (fun (i : Int × Int × Int) => ([.d (.one (.int .i64 i.1)), .d (.one (.int .i64 i.2.1)), .d (.one (.int .i64 i.2.2))] : List AV)) j -> i = j := by
 rintro ⟨n, a, b⟩ ⟨n', a', b'⟩ h
 simp only [Prod.mk.injEq]
 simpa [strs_eq, T.enc_eq, encL_eq, F.enc_eq, encF_eq, Tk.enc_eq, encTk_eq, Gn.enc_eq, ints_eq] using h
theorem spWithin_md  : (spWithin).md = [false, false, false] := rfl
theorem spWithin_pre  (n : Int) (a : Int) (b : Int) : (spWithin).pre [.d (.one (.int .i64 n)), .d (.one (.int .i64 a)), .d (.one (.int .i64 b))] = (True) := Spec.of_pre' spWithin_inj (n, a, b)
theorem spWithin_alts  : (spWithin).alts = none := rfl
theorem spWithin_res  (n : Int) (a : Int) (b : Int) : (spWithin).res [.d (.one (.int .i64 n)), .d (.one (.int .i64 a)), .d (.one (.int .i64 b))] = [.d (.one (.bool (decide (a <= n /\ n <= b))))] := Spec.of_res spWithin_inj (n, a, b)
theorem spWithin_out  (n : Int) (a : Int) (b : Int) : (spWithin).out [.d (.one (.int .i64 n)), .d (.one (.int .i64 a)), .d (.one (.int .i64 b))] = [.gone, .gone, .gone] := Spec.of_out spWithin_inj (n, a, b)
theorem within_sound : Sound Tryd.prog 57 spWithin := by
 refine sound_fam GOK.nil Tryd.func57 (c := Tryd.f57.body.getD .skip) rfl (n := 15) rfl chk_within rs_within (fun _ => by simp) ?_ ?_
 ·exact spWithin_inj
 ·rintro ⟨n, a, b⟩ _
  simp only [x_within, go_sem, seval, rg]
  intro h; exact ⟨h, h⟩
noncomputable def spTextOk  : Spec := Spec.of (ι := ByteArray) [false] (fun i => [.d (.one (.str i))]) (fun i => lenB 140737488355328 i.size) (fun i => [.d (.one (.bool (decide (okS i))))]) (fun _ => [.gone])
theorem spTextOk_inj : ∀ i j : ByteArray, (fun (i : ByteArray) => ([.d (.one (.str i))] : List AV)) i = (fun (i : ByteArray) => ([.d (.one (.str i))] : List AV)) j -> i = j := by
 intro s s' h
 simpa [strs_eq, T.enc_eq, encL_eq, F.enc_eq, encF_eq, Tk.enc_eq, encTk_eq, Gn.enc_eq, ints_eq] using h
theorem spTextOk_md  : (spTextOk).md = [false] := rfl
theorem spTextOk_pre  (s : ByteArray) : (spTextOk).pre [.d (.one (.str s))] = (lenB 140737488355328 s.size) := Spec.of_pre' spTextOk_inj s
theorem spTextOk_alts  : (spTextOk).alts = none := rfl
theorem spTextOk_res  (s : ByteArray) : (spTextOk).res [.d (.one (.str s))] = [.d (.one (.bool (decide (okS s))))] := Spec.of_res spTextOk_inj s
theorem spTextOk_out  (s : ByteArray) : (spTextOk).out [.d (.one (.str s))] = [.gone] := Spec.of_out spTextOk_inj s
theorem textOk_sound : Sound Tryd.prog 56 spTextOk := by
 refine sound_fam GOK.nil Tryd.func56 (c := Tryd.f56.body.getD .skip) rfl (n := 23) rfl chk_textOk rs_textOk (fun _ => by simp) ?_ ?_
 ·exact spTextOk_inj
 ·intro s h1
  simp only [lenB] at h1
  simp only [x_textOk, rg, go_sem, seval]
  refine pw_loop (ι := Nat) (fun i => s.size - i) (fun i => i <= s.size /\ ∀ x ∈ s.data.toList.take i, letter x)
   (fun i => ⟨[(0, .q (.c (.str s))), (5, .q (.c (.int .i64 s.size))), (6, .q (.c (.int .i64 i)))], [], []⟩) 0 ⟨Nat.zero_le _, by simp⟩ (Le.refl _) ?_
  rintro i ⟨hi, hall⟩
  rcases Nat.lt_or_ge i s.size with hlt | hge
  ·obtain ⟨x, hx, hb, hmem⟩ := byteAt_get hlt
   have a2 : ((i : Int) < (s.size : Int)) = True := by simp; omega
   simp only [go_sem, seval, rg, a2, hb]
   repeat' (first | with_reducible assumption | with_reducible refine And.intro ?_ ?_ | intro _)
   all_goals first | omega | skip
   ·rename_i hc ho
    have := ho.1 x hmem
    unfold letter at this; omega
   ·rename_i hc _
    refine ⟨i + 1, ⟨by omega, fun y hy => ?_⟩, by omega, Le.refl _⟩
    rw [List.take_add_one, hx] at hy
    rcases List.mem_append.1 hy with hy | hy
    ·exact hall y hy
    ·simp at hy; subst hy; unfold letter; omega
  ·have a2 : ((i : Int) < (s.size : Int)) = False := by simp; omega
   simp only [go_sem, seval, a2]
   rw [decide_eq_decide]
   unfold okS
   rw [List.take_of_length_le (by simpa using hge)] at hall
   constructor
   ·intro h; omega
   ·intro h; exact ⟨hall, by omega⟩
noncomputable def spOkI (k:Nat) : Spec := Spec.of (ι := T × Int × Int) [false, false, true] (fun i => [.d (.agg i.1.enc), .d (.one (.int .i64 i.2.1)), .ref [.int .i64 i.2.2]]) (fun i => (i.1.fit 140737488355328 /\ 0 <= i.2.1 /\ i.2.1 <= 7 /\ 0 <= i.2.2 /\ i.2.2 <= 1000) /\ SizeOf.sizeOf i.1 < k) (fun i => [.d (.one (.bool (decide ((okI i.1 i.2.1 i.2.2).1 = true))))]) (fun i => [.gone, .gone, .ref [.int .i64 (okI i.1 i.2.1 i.2.2).2]])
theorem spOkI_inj : ∀ i j : T × Int × Int, (fun (i : T × Int × Int) => ([.d (.agg i.1.enc), .d (.one (.int .i64 i.2.1)), .ref [.int .i64 i.2.2]] : List AV)) i = (fun (i : T × Int × Int) => ([.d (.agg i.1.enc), .d (.one (.int .i64 i.2.1)), .ref [.int .i64 i.2.2]] : List AV)) j -> i = j := by
 rintro ⟨t, d, left⟩ ⟨t', d', left'⟩ h
 simp only [Prod.mk.injEq]
 simpa [strs_eq, T.enc_eq, encL_eq, F.enc_eq, encF_eq, Tk.enc_eq, encTk_eq, Gn.enc_eq, ints_eq] using h
theorem spOkI_md (k:Nat) : (spOkI k).md = [false, false, true] := rfl
theorem spOkI_pre (k:Nat) (t : T) (d : Int) (left : Int) : (spOkI k).pre [.d (.agg t.enc), .d (.one (.int .i64 d)), .ref [.int .i64 left]] = ((t.fit 140737488355328 /\ 0 <= d /\ d <= 7 /\ 0 <= left /\ left <= 1000) /\ SizeOf.sizeOf t < k) := Spec.of_pre' spOkI_inj (t, d, left)
theorem spOkI_alts (k:Nat) : (spOkI k).alts = none := rfl
theorem spOkI_res (k:Nat) (t : T) (d : Int) (left : Int) : (spOkI k).res [.d (.agg t.enc), .d (.one (.int .i64 d)), .ref [.int .i64 left]] = [.d (.one (.bool (decide ((okI t d left).1 = true))))] := Spec.of_res spOkI_inj (t, d, left)
theorem spOkI_out (k:Nat) (t : T) (d : Int) (left : Int) : (spOkI k).out [.d (.agg t.enc), .d (.one (.int .i64 d)), .ref [.int .i64 left]] = [.gone, .gone, .ref [.int .i64 (okI t d left).2]] := Spec.of_out spOkI_inj (t, d, left)
set_option maxHeartbeats 1000000 in
theorem okI_sound (k : Nat) (hS : Sound Tryd.prog 38 (spOkI k)) : Sound Tryd.prog 38 (spOkI (k + 1)) := by
 refine sound_fam (GOK.cons (l := [(56, spTextOk), (38, spOkI k)]) call_within within_sound (GOK.cons call_textOk textOk_sound (GOK.cons call_ok hS GOK.nil))) Tryd.func38 (c := Tryd.f38.body.getD .skip) rfl (n := 134) rfl chk_ok rs_ok (fun _ => by simp) ?_ ?_
 ·exact spOkI_inj
 ·rintro ⟨t, d, left⟩ ⟨⟨h1, h2, h3, h3', h3''⟩, h4⟩
  obtain ⟨kk, n, s, ks, l⟩ := t
  simp only [T.fit, lenB, strsFit] at h1
  obtain ⟨_, _, f1, ⟨f2, f2'⟩, f3, f4⟩ := h1
  have e3 : SizeOf.sizeOf l < k := by have e : SizeOf.sizeOf (T.mk kk n s ks l) < k + 1 := h4
                                      rw [T.mk.sizeOf_spec] at e; omega
  simp only at h2 h3 h3' h3''
  have f1' : lenB 140737488355328 s.size := f1
  have hH : headOk kk n s ks l ↔ ((kk = 3 \/ n = 0) /\ (kk = 4 \/ s = ⟨#[]⟩) /\ (kk = 6 \/ ks.length = 0) /\ (5 <= kk \/ l.length = 0) /\ 0 <= kk /\ kk <= 6 /\ -1000000 <= n /\ n <= 1000000 /\ okS s /\ (kk = 6 -> ks.length = l.length) /\ okKeys ks) := Iff.rfl
  have hneg : ¬ (1 <= left /\ d <= 6 /\ headOk kk n s ks l) -> (okI (T.mk kk n s ks l) d left).1 = false /\ left - 1 = (okI (T.mk kk n s ks l) d left).2 := fun h => by simp only [okI]; rw [if_neg h]; exact ⟨rfl, rfl⟩
  have hpos : (1 <= left /\ d <= 6 /\ headOk kk n s ks l) -> okI (T.mk kk n s ks l) d left = okIL l (d + 1) (left - 1) := fun h => by simp only [okI]; rw [if_pos h]
  generalize hres : okI (T.mk kk n s ks l) d left = R at *
  clear hres
  simp only [x_ok, T.enc, go_sem, seval, rg, spWithin_md, spWithin_pre, spWithin_alts, spWithin_res, spWithin_out, spTextOk_md, spTextOk_pre, spTextOk_alts, spTextOk_res, spTextOk_out]
  repeat' (first | with_reducible assumption | with_reducible refine And.intro ?_ ?_ | intro _)
  all_goals first | omega | (grind; done) | skip
  have hb : okKeys ks -> 1 <= left /\ d <= 6 /\ headOk kk n s ks l := by grind
  have hb' : ¬ okKeys ks -> ¬ (1 <= left /\ d <= 6 /\ headOk kk n s ks l) := by grind
  have hd : 1 <= left /\ d <= 6 := by omega
  clear hH
  repeat (rename_i hx; clear hx)
  refine pw_loop (ι := Nat) (fun i => ks.length - i) (fun i => i <= ks.length /\ okKeysN ks i)
   (fun i => ⟨[(1, .q (.c (.int .i64 d))), (2, .q (.box 136 0)), (3, .q (.box 3 0)), (95, .q (.c (.row 1 (strs ks)))), (96, .q (.c (.int .i64 ks.length))), (97, .q (.c (.int .i64 i)))], [(136, [.c (.int .i64 (left - 1))]), (3, [.c (.int .i64 kk), .c (.int .i64 n), .c (.str s), .c (.row 1 (strs ks)), .c (.row 5 (encL l))])], []⟩) 0 ⟨Nat.zero_le _, okKeysN_zero ks⟩ (Le.refl _) ?_
  rintro i ⟨hi, hall⟩
  rcases Nat.lt_or_ge i ks.length with hlt | hge
  ·obtain ⟨t, ht, _, hmem⟩ := drop_at hlt
   have a1 := strs_at ht
   have a2 : ((i : Int) < (ks.length : Int)) = True := by simp; omega
   have a3 : lenB 140737488355328 t.size := f2' t hmem
   have a5 : ((i : Int) - 1).toNat = i - 1 := by omega
   obtain ⟨s', a6, a7⟩ : ∃ s', (strs ks).getD (i - 1) [] = [C.str s'] /\ ks[i - 1]? = some s' := by
    obtain ⟨s', hs', _, _⟩ := drop_at (l := ks) (i := i - 1) (by omega)
    exact ⟨s', strs_at hs', hs'⟩
   have hbad : ¬ okS t \/ 0 < (i : Int) /\ ¬ sl s' t -> R.1 = false /\ left - 1 = R.2 := fun h => hneg (hb' (fun ho => by
    rcases h with h | ⟨h, h'⟩
    ·exact h (okKeys_at ho ht)
    ·exact h' (okKeys_lt ho (by omega) a7 ht)))
   simp only [go_sem, seval, rg, a1, a2, a5, a6, spTextOk_md, spTextOk_pre, spTextOk_alts, spTextOk_res, spTextOk_out]
   repeat' (first | with_reducible assumption | with_reducible refine And.intro ?_ ?_ | intro _)
   all_goals first | omega | skip
   all_goals first | (rename_i hc; exact (hbad hc).2) | skip
   ·rename_i hc hR
    rw [(hbad hc).1] at hR; cases hR
   ·rename_i hc _
    refine ⟨i + 1, ⟨by omega, okKeysN_succ hall ht (Classical.byContradiction fun h => hc (.inl h)) (fun b hb hb' => ?_)⟩, by omega, Le.refl _⟩
    rw [a7] at hb'; cases hb'
    exact Classical.byContradiction fun h => hc (.inr ⟨by omega, h⟩)
  ·have a2 : ((i : Int) < (ks.length : Int)) = False := by simp; omega
   have hie : i = ks.length := by omega
   subst hie
   have hpos' := hpos (hb hall)
   simp only [go_sem, seval, rg, a2]
   clear hneg hpos hb hb'
   refine pw_loop (ι := Nat × Int) (fun i => l.length - i.1) (fun i => i.1 <= l.length /\ 0 <= i.2 /\ i.2 <= left - 1 /\ R = okIL (l.drop i.1) (d + 1) i.2)
    (fun i => ⟨[(1, .q (.c (.int .i64 d))), (2, .q (.box 136 0)), (121, .q (.c (.row 5 (encL l)))), (122, .q (.c (.int .i64 l.length))), (123, .q (.c (.int .i64 i.1)))], [(136, [.c (.int .i64 i.2)]), (3, [.c (.int .i64 kk), .c (.int .i64 n), .c (.str s), .c (.row 1 (strs ks)), .c (.row 5 (encL l))])], []⟩) (0, left - 1) ⟨Nat.zero_le _, by simp only; omega, by simp only; omega, by simpa using hpos'⟩ (Le.refl _) ?_
   rintro ⟨i, m⟩ ⟨hi, hm, hm', heq⟩
   simp only at hi hm hm' heq
   rcases Nat.lt_or_ge i l.length with hlt | hge
   ·obtain ⟨t, ht, hdr, hmem⟩ := drop_at hlt
    have a1 := encL_at ht
    have a2 : ((i : Int) < (l.length : Int)) = True := by simp; omega
    have a3 := fitL_mem f4 t hmem
    have a4 := size_mem hmem
    have a6 := T.enc_len t
    have a7 := okI_le t (d + 1) m
    rw [hdr] at heq
    simp only [okIL] at heq
    simp only [go_sem, seval, rg, a1, a2, a6, spOkI_md, spOkI_pre, spOkI_alts, spOkI_res, spOkI_out]
    repeat' (first | with_reducible assumption | with_reducible refine And.intro ?_ ?_ | intro _)
    all_goals first | omega | skip
    ·rename_i hc hR
     rw [if_neg hc] at heq
     rw [heq] at hR; cases hR
    ·rename_i hc
     rw [if_neg hc] at heq
     rw [heq]
    ·rename_i hc _
     rw [if_pos (Classical.not_not.1 hc)] at heq
     exact ⟨(i + 1, (okI t (d + 1) m).2), ⟨by simp only; omega, a7.2 (Classical.not_not.1 hc), by simp only; omega, heq⟩, by simp only; omega, Le.sub (fun _ h => h) (fun _ h => List.mem_append_left [_] h) (fun _ h => h)⟩
   ·have a2 : ((i : Int) < (l.length : Int)) = False := by simp; omega
    rw [List.drop_eq_nil_of_le hge] at heq
    simp only [okIL] at heq
    subst heq
    simp only [go_sem, seval, rg, a2]
theorem okI_all : ∀ k, Sound Tryd.prog 38 (spOkI k) := fun k => Nat.rec Sound.none (fun k ih => okI_sound k ih) k
noncomputable def spOkIV  : Spec := Spec.of (ι := T × Int × Int) [false, false, true] (fun i => [.d (.agg i.1.enc), .d (.one (.int .i64 i.2.1)), .ref [.int .i64 i.2.2]]) (fun i => i.1.fit 140737488355328 /\ 0 <= i.2.1 /\ i.2.1 <= 7 /\ 0 <= i.2.2 /\ i.2.2 <= 1000) (fun i => [.d (.one (.bool (decide ((okI i.1 i.2.1 i.2.2).1 = true))))]) (fun i => [.gone, .gone, .ref [.int .i64 (okI i.1 i.2.1 i.2.2).2]])
theorem spOkIV_inj : ∀ i j : T × Int × Int, (fun (i : T × Int × Int) => ([.d (.agg i.1.enc), .d (.one (.int .i64 i.2.1)), .ref [.int .i64 i.2.2]] : List AV)) i = (fun (i : T × Int × Int) => ([.d (.agg i.1.enc), .d (.one (.int .i64 i.2.1)), .ref [.int .i64 i.2.2]] : List AV)) j -> i = j := by
 rintro ⟨t, d, left⟩ ⟨t', d', left'⟩ h
 simp only [Prod.mk.injEq]
 simpa [strs_eq, T.enc_eq, encL_eq, F.enc_eq, encF_eq, Tk.enc_eq, encTk_eq, Gn.enc_eq, ints_eq] using h
theorem spOkIV_md  : (spOkIV).md = [false, false, true] := rfl
theorem spOkIV_pre  (t : T) (d : Int) (left : Int) : (spOkIV).pre [.d (.agg t.enc), .d (.one (.int .i64 d)), .ref [.int .i64 left]] = (t.fit 140737488355328 /\ 0 <= d /\ d <= 7 /\ 0 <= left /\ left <= 1000) := Spec.of_pre' spOkIV_inj (t, d, left)
theorem spOkIV_alts  : (spOkIV).alts = none := rfl
theorem spOkIV_res  (t : T) (d : Int) (left : Int) : (spOkIV).res [.d (.agg t.enc), .d (.one (.int .i64 d)), .ref [.int .i64 left]] = [.d (.one (.bool (decide ((okI t d left).1 = true))))] := Spec.of_res spOkIV_inj (t, d, left)
theorem spOkIV_out  (t : T) (d : Int) (left : Int) : (spOkIV).out [.d (.agg t.enc), .d (.one (.int .i64 d)), .ref [.int .i64 left]] = [.gone, .gone, .ref [.int .i64 (okI t d left).2]] := Spec.of_out spOkIV_inj (t, d, left)
theorem okIV_sound : Sound Tryd.prog 38 spOkIV := Sound.all (μ := fun i => SizeOf.sizeOf i.1) okI_all
noncomputable def spValOkI  : Spec := Spec.of (ι := T) [false] (fun i => [.d (.agg i.enc)]) (fun i => i.fit 140737488355328) (fun i => [.d (.one (.bool (decide ((okI i 1 60).1 = true))))]) (fun _ => [.gone])
theorem spValOkI_inj : ∀ i j : T, (fun (i : T) => ([.d (.agg i.enc)] : List AV)) i = (fun (i : T) => ([.d (.agg i.enc)] : List AV)) j -> i = j := by
 intro t t' h
 simpa [strs_eq, T.enc_eq, encL_eq, F.enc_eq, encF_eq, Tk.enc_eq, encTk_eq, Gn.enc_eq, ints_eq] using h
theorem spValOkI_md  : (spValOkI).md = [false] := rfl
theorem spValOkI_pre  (t : T) : (spValOkI).pre [.d (.agg t.enc)] = (t.fit 140737488355328) := Spec.of_pre' spValOkI_inj t
theorem spValOkI_alts  : (spValOkI).alts = none := rfl
theorem spValOkI_res  (t : T) : (spValOkI).res [.d (.agg t.enc)] = [.d (.one (.bool (decide ((okI t 1 60).1 = true))))] := Spec.of_res spValOkI_inj t
theorem spValOkI_out  (t : T) : (spValOkI).out [.d (.agg t.enc)] = [.gone] := Spec.of_out spValOkI_inj t
theorem valOkI_sound : Sound Tryd.prog 12 spValOkI := by
 refine sound_fam (GOK.cons call_ok okIV_sound GOK.nil) Tryd.func12 (c := Tryd.f12.body.getD .skip) rfl (n := 6) rfl chk_ValOkI rs_ValOkI (fun _ => by simp) ?_ ?_
 ·exact spValOkI_inj
 ·intro t h1
  have a6 := T.enc_len t
  simp only [x_ValOkI, go_sem, seval, rg, a6, spOkIV_md, spOkIV_pre, spOkIV_alts, spOkIV_res, spOkIV_out]
  repeat' (first | with_reducible assumption | with_reducible refine And.intro ?_ ?_ | intro _)
  all_goals first | omega | skip
end Go.Proofs.Pw
namespace Go.Proofs.Pw
variable [Globs]
end Go.Proofs.Pw
namespace Go.Proofs.Pw
def kidsOf (k : Int) : Int :=
 if k = 1 \/ k = 2 \/ k = 3 \/ k = 4 \/ k = 5 \/ k = 13 \/ k = 14 \/ k = 15 \/ k = 18 \/ k = 19 then 0
 else if k = 12 \/ k = 17 \/ k = 21 then 1
 else if k = 6 \/ k = 7 \/ k = 9 \/ k = 10 \/ k = 11 \/ k = 16 \/ k = 20 then 2
 else if k = 8 then 3 else -1
mutual
def wayF : F -> Prop
 | .mk k _ _ _ l => (k = 1 \/ k = 3 \/ k = 4 \/ k = 5 \/ k = 18) \/ ((k = 6 \/ k = 7) /\ wayL l 0 /\ wayL l 1) \/ (k = 8 /\ wayL l 1 /\ wayL l 2)
def wayL : List F -> Nat -> Prop
 | [], _ => False
 | t :: _, 0 => wayF t
 | _ :: r, n + 1 => wayL r n
end
noncomputable instance (f : F) : Decidable (wayF f) := Classical.propDecidable _
mutual
def kindedF : F -> Prop
 | .mk k _ _ _ l => kidsOf k = l.length /\ kindedL l
def kindedL : List F -> Prop
 | [] => True
 | t :: l => kindedF t /\ kindedL l
end
def cleanF (k n : Int) (s : ByteArray) (v : T) : Prop := (k = 4 \/ n = 0) /\ ((k = 3 \/ k = 21) \/ s = ⟨#[]⟩) /\ (k = 2 \/ v = T.zero)
noncomputable instance (k n : Int) (s : ByteArray) (v : T) : Decidable (cleanF k n s v) := Classical.propDecidable _
mutual
def formF : F -> Int -> Prop
 | .mk k n s v l, d => 1 <= d /\ kidsOf k = l.length /\ cleanF k n s v /\ okS s /\ -60 <= n /\ n < 60 /\ okT v /\ formFL l (d - 1) /\ (k = 20 -> wayL l 0)
def formFL : List F -> Int -> Prop
 | [], _ => True
 | t :: l, d => formF t d /\ formFL l d
end
noncomputable instance (t : F) (d : Int) : Decidable (formF t d) := Classical.propDecidable _
mutual
theorem formF_kinded : ∀ {t : F} {d : Int}, formF t d -> kindedF t
 | .mk k n s v l, d, h => by
   simp only [formF] at h
   exact ⟨h.2.1, formFL_kinded h.2.2.2.2.2.2.2.1⟩
theorem formFL_kinded : ∀ {l : List F} {d : Int}, formFL l d -> kindedL l
 | [], _, _ => trivial
 | t :: l, d, h => by
   simp only [formFL] at h
   exact ⟨formF_kinded h.1, formFL_kinded h.2⟩
end
mutual
def manyF : F -> Int -> Int
 | .mk _ _ _ _ l, d => 1 + manyFL l d
def manyFL : List F -> Int -> Int
 | [], _ => 0
 | t :: l, d => if 0 < d then manyF t (d - 1) + manyFL l d else 0
end
mutual
def sizeF : F -> Int
 | .mk _ _ _ _ l => 1 + sizeFL l
def sizeFL : List F -> Int
 | [] => 0
 | t :: l => sizeF t + sizeFL l
end
def okF (t : F) : Prop := formF t 7 /\ manyF t 7 <= 16
noncomputable instance (t : F) : Decidable (okF t) := Classical.propDecidable _
mutual
def smallF : F -> Prop
 | .mk _ _ _ v l => sizeT v <= 1048577 /\ smallFL l
def smallFL : List F -> Prop
 | [] => True
 | t :: l => smallF t /\ smallFL l
end
mutual
theorem manyF_le : ∀ (t : F) (d : Int), 0 <= manyF t d /\ manyF t d <= sizeF t
 | .mk k n s v l, d => by
   have := manyFL_le l d
   simp only [manyF, sizeF]; omega
theorem manyFL_le : ∀ (l : List F) (d : Int), 0 <= manyFL l d /\ manyFL l d <= sizeFL l
 | [], d => by simp [manyFL, sizeFL]
 | t :: l, d => by
   have h1 := manyF_le t (d - 1)
   have h2 := manyFL_le l d
   simp only [manyFL, sizeFL]
   split <;> omega
end
end Go.Proofs.Pw
namespace Go.Proofs.Pw
def cleanQ : F -> Prop
 | .mk k n s v _ => cleanF k n s v
noncomputable instance (f : F) : Decidable (cleanQ f) := Classical.propDecidable _
end Go.Proofs.Pw
namespace Go.Proofs.Pw
def headF (k n : Int) (s : ByteArray) (v : T) (l : List F) : Prop :=
 1 <= k /\ k <= 21 /\ kidsOf k = l.length /\ cleanF k n s v /\ -60 <= n /\ n <= 59 /\ okS s /\ (okI v 1 60).1 = true
noncomputable instance (k n : Int) (s : ByteArray) (v : T) (l : List F) : Decidable (headF k n s v l) := Classical.propDecidable _
noncomputable instance (k : Int) (l : List F) : Decidable (k = 20 -> wayL l 0) := Classical.propDecidable _
mutual
noncomputable def okFI : F -> Int -> Int -> Bool × Int
 | .mk k n s v l, d, left => if 1 <= left /\ d <= 7 /\ headF k n s v l then (if (okFIL l (d + 1) (left - 1)).1 = true then (decide (k = 20 -> wayL l 0), (okFIL l (d + 1) (left - 1)).2) else (false, (okFIL l (d + 1) (left - 1)).2)) else (false, left - 1)
noncomputable def okFIL : List F -> Int -> Int -> Bool × Int
 | [], _, left => (true, left)
 | t :: r, d, left => if (okFI t d left).1 = true then okFIL r d (okFI t d left).2 else (false, (okFI t d left).2)
end
mutual
theorem okFI_le : ∀ (t : F) (d left : Int), (okFI t d left).2 <= left /\ ((okFI t d left).1 = true -> 0 <= (okFI t d left).2 /\ kindedF t)
 | .mk k n s v l, d, left => by
   have h := okFIL_le l (d + 1) (left - 1)
   simp only [okFI, kindedF]
   split
   ·rename_i hc
    split
    ·rename_i hr
     exact ⟨by simp only; omega, fun _ => ⟨(h.2 (by omega) hr).1, hc.2.2.2.2.1, (h.2 (by omega) hr).2⟩⟩
    ·exact ⟨by simp only; omega, fun h => by simp at h⟩
   ·exact ⟨by simp only; omega, fun h => by simp at h⟩
theorem okFIL_le : ∀ (l : List F) (d left : Int), (okFIL l d left).2 <= left /\ (0 <= left -> (okFIL l d left).1 = true -> 0 <= (okFIL l d left).2 /\ kindedL l)
 | [], d, left => by simp [okFIL, kindedL]
 | t :: r, d, left => by
   have h1 := okFI_le t d left
   have h2 := okFIL_le r d (okFI t d left).2
   simp only [okFIL, kindedL]
   split
   ·rename_i h; exact ⟨by omega, fun _ h' => ⟨(h2.2 (h1.2 h).1 h').1, (h1.2 h).2, (h2.2 (h1.2 h).1 h').2⟩⟩
   ·rename_i h; exact ⟨h1.1, fun _ h' => by simp at h'⟩
end
end Go.Proofs.Pw
