/- What is a generator that is ok. -/
import Derived.Test.YtgpjodcopajlkaaDoorPwT10
import Derived.Test.YtgpjodcopajlkaaDoorProg
import Derived.KernelRfl
set_option linter.unusedSimpArgs false
set_option linter.unusedVariables false
set_option linter.unusedSectionVars false
set_option maxRecDepth 20000
namespace Go.Proofs.Pw
def okTk (t : Tk) : Prop := okT t.v /\ t.todo.length <= 40 /\ ∀ f ∈ t.todo, okF f
def okGn (g : Gn) : Prop := 0 <= g.fuel /\ g.fuel <= 400 /\ 0 <= g.code /\ g.code <= 3 /\ (g.code = 0 \/ g.tasks.length = 0) /\ g.tasks.length <= 2000 /\ ∀ t ∈ g.tasks, okTk t
noncomputable instance (g : Gn) : Decidable (okGn g) := Classical.propDecidable _
def okTkI (t : Tk) : Prop := (okI t.v 1 60).1 = true /\ t.todo.length <= 40 /\ ∀ f ∈ t.todo, (okFI f 1 16).1 = true
def okGnI (g : Gn) : Prop := 0 <= g.fuel /\ g.fuel <= 400 /\ 0 <= g.code /\ g.code <= 3 /\ (g.code = 0 \/ g.tasks.length = 0) /\ g.tasks.length <= 2000 /\ ∀ t ∈ g.tasks, okTkI t
noncomputable instance (g : Gn) : Decidable (okGnI g) := Classical.propDecidable _
mutual
theorem okI_form : ∀ (t : T) (d left : Int), 0 <= d -> (okI t d left).1 = true -> formT t (7 - d) /\ (okI t d left).2 = left - sizeT t
 | .mk k n s ks l, d, left, hd, h => by
   simp only [okI] at h ⊢
   split at h
   ·rename_i hc
    rw [if_pos hc]
    obtain ⟨h1, h2, h3, h4, h5, h6, h7, h8, h9, h10, h11, h12, h13⟩ := hc
    have := okIL_form l (d + 1) (left - 1) (by omega) h
    simp only [formT, sizeT]
    refine ⟨⟨by omega, h3, h4, h5.imp id (fun h => List.eq_nil_of_length_eq_zero h), h6.imp id (fun h => List.eq_nil_of_length_eq_zero h), h7, h8, h9, h10, h11, fun hk => ⟨h12 hk, h13⟩, ?_⟩, by omega⟩
    rw [show 7 - d - 1 = 7 - (d + 1) by omega]; exact this.1
   ·cases h
theorem okIL_form : ∀ (l : List T) (d left : Int), 0 <= d -> (okIL l d left).1 = true -> formL l (7 - d) /\ (okIL l d left).2 = left - sizeL l
 | [], d, left, _, _ => by simp [okIL, formL, sizeL]
 | t :: r, d, left, hd, h => by
   simp only [okIL] at h ⊢
   split at h
   ·rename_i hc
    rw [if_pos hc]
    have h1 := okI_form t d left hd hc
    have h2 := okIL_form r d _ hd h
    simp only [formL, sizeL]
    exact ⟨⟨h1.1, h2.1⟩, by omega⟩
   ·cases h
end
end Go.Proofs.Pw
namespace Go.Proofs.Pw
mutual
theorem form_okI : ∀ (t : T) (d left : Int), 0 <= d -> formT t (7 - d) -> sizeT t <= left -> (okI t d left).1 = true /\ (okI t d left).2 = left - sizeT t
 | .mk k n s ks l, d, left, hd, h, hs => by
   simp only [formT, sizeT] at h hs
   obtain ⟨h1, h2, h3, h4, h5, h6, h7, h8, h9, h10, h11, h12⟩ := h
   have hz := (manyL_le l 0)
   have hk : okKeys ks := by
    rcases h4 with h4 | h4
    ·exact (h11 h4).2
    ·subst h4; exact okKeysN_zero []
   have hc : 1 <= left /\ d <= 6 /\ headOk k n s ks l := ⟨by omega, by omega, h2, h3, h4.imp id (fun h => by rw [h]; rfl), h5.imp id (fun h => by rw [h]; rfl), h6, h7, h8, h9, h10, fun h => (h11 h).1, hk⟩
   have := form_okIL l (d + 1) (left - 1) (by omega) (by rw [show 7 - (d + 1) = 7 - d - 1 by omega]; exact h12) (by omega)
   simp only [okI, sizeT]
   rw [if_pos hc]
   exact ⟨this.1, by omega⟩
theorem form_okIL : ∀ (l : List T) (d left : Int), 0 <= d -> formL l (7 - d) -> sizeL l <= left -> (okIL l d left).1 = true /\ (okIL l d left).2 = left - sizeL l
 | [], d, left, _, _, _ => by simp [okIL, sizeL]
 | t :: r, d, left, hd, h, hs => by
   simp only [formL, sizeL] at h hs
   have hz := (manyL_le r 0)
   have h1 := form_okI t d left hd h.1 (by omega)
   have h2 := form_okIL r d (okI t d left).2 hd h.2 (by omega)
   simp only [okIL, sizeL]
   rw [if_pos h1.1]
   exact ⟨h2.1, by omega⟩
end
mutual
theorem many_size : ∀ (t : T) (d : Int), formT t d -> manyT t d = sizeT t
 | .mk k n s ks l, d, h => by
   simp only [formT] at h
   simp only [manyT, sizeT]
   have := manyL_size l d h.2.2.2.2.2.2.2.2.2.2.2
   omega
theorem manyL_size : ∀ (l : List T) (d : Int), formL l (d - 1) -> manyL l d = sizeL l
 | [], d, _ => by simp [manyL, sizeL]
 | t :: l, d, h => by
   simp only [formL] at h
   have h1 := many_size t (d - 1) h.1
   have h2 := manyL_size l d h.2
   have h3 : 0 < d := by
    cases t with
    | mk k n s ks r => have := h.1; simp only [formT] at this; omega
   simp only [manyL, sizeL]
   rw [if_pos h3]; omega
end
theorem okI_iff (t : T) : (okI t 1 60).1 = true ↔ okT t := by
 constructor
 ·intro h
  have h1 := okI_form t 1 60 (by omega) h
  have h2 := okI_le t 1 60
  have h3 := many_size t 6 h1.1
  refine ⟨h1.1, ?_⟩
  have := h2.2 h
  omega
 ·rintro ⟨h1, h2⟩
  have h3 := many_size t 6 h1
  exact (form_okI t 1 60 (by omega) h1 (by omega)).1
end Go.Proofs.Pw
namespace Go.Proofs.Pw
mutual
theorem okFI_form : ∀ (t : F) (d left : Int), 0 <= d -> (okFI t d left).1 = true -> formF t (8 - d) /\ (okFI t d left).2 = left - sizeF t
 | .mk k n s v l, d, left, hd, h => by
   simp only [okFI] at h ⊢
   split at h
   ·rename_i hc
    rw [if_pos hc]
    split at h
    ·rename_i hr
     rw [if_pos hr]
     obtain ⟨h1, h2, h3, h4, h5, h6, h7, h8, h9, h10⟩ := hc
     have := okFIL_form l (d + 1) (left - 1) (by omega) hr
     simp only [formF, sizeF]
     refine ⟨⟨by omega, h5, h6, h9, h7, by omega, (okI_iff v).1 h10, ?_, by simpa using h⟩, by omega⟩
     rw [show 8 - d - 1 = 8 - (d + 1) by omega]; exact this.1
    ·cases h
   ·cases h
theorem okFIL_form : ∀ (l : List F) (d left : Int), 0 <= d -> (okFIL l d left).1 = true -> formFL l (8 - d) /\ (okFIL l d left).2 = left - sizeFL l
 | [], d, left, _, _ => by simp [okFIL, formFL, sizeFL]
 | t :: r, d, left, hd, h => by
   simp only [okFIL] at h ⊢
   split at h
   ·rename_i hc
    rw [if_pos hc]
    have h1 := okFI_form t d left hd hc
    have h2 := okFIL_form r d _ hd h
    simp only [formFL, sizeFL]
    exact ⟨⟨h1.1, h2.1⟩, by omega⟩
   ·cases h
end
theorem kidsOf_range {k : Int} (h : 0 <= kidsOf k) : 1 <= k /\ k <= 21 := by
 unfold kidsOf at h
 split at h
 ·omega
 ·split at h
  ·omega
  ·split at h
   ·omega
   ·split at h <;> omega
mutual
theorem form_okFI : ∀ (t : F) (d left : Int), 0 <= d -> formF t (8 - d) -> sizeF t <= left -> (okFI t d left).1 = true /\ (okFI t d left).2 = left - sizeF t
 | .mk k n s v l, d, left, hd, h, hs => by
   simp only [formF, sizeF] at h hs
   obtain ⟨h1, h2, h3, h4, h5, h6, h7, h8, h9⟩ := h
   have hz := (manyFL_le l 0)
   have hk := kidsOf_range (k := k) (by omega)
   have hc : 1 <= left /\ d <= 7 /\ headF k n s v l := ⟨by omega, by omega, hk.1, hk.2, h2, h3, h5, by omega, h4, (okI_iff v).2 h7⟩
   have := form_okFIL l (d + 1) (left - 1) (by omega) (by rw [show 8 - (d + 1) = 8 - d - 1 by omega]; exact h8) (by omega)
   simp only [okFI, sizeF]
   rw [if_pos hc, if_pos this.1]
   exact ⟨by simpa using h9, by simp only; omega⟩
theorem form_okFIL : ∀ (l : List F) (d left : Int), 0 <= d -> formFL l (8 - d) -> sizeFL l <= left -> (okFIL l d left).1 = true /\ (okFIL l d left).2 = left - sizeFL l
 | [], d, left, _, _, _ => by simp [okFIL, sizeFL]
 | t :: r, d, left, hd, h, hs => by
   simp only [formFL, sizeFL] at h hs
   have hz := (manyFL_le r 0)
   have h1 := form_okFI t d left hd h.1 (by omega)
   have h2 := form_okFIL r d (okFI t d left).2 hd h.2 (by omega)
   simp only [okFIL, sizeFL]
   rw [if_pos h1.1]
   exact ⟨h2.1, by omega⟩
end
mutual
theorem manyF_size : ∀ (t : F) (d : Int), formF t d -> manyF t d = sizeF t
 | .mk k n s v l, d, h => by
   simp only [formF] at h
   simp only [manyF, sizeF]
   have := manyFL_size l d h.2.2.2.2.2.2.2.1
   omega
theorem manyFL_size : ∀ (l : List F) (d : Int), formFL l (d - 1) -> manyFL l d = sizeFL l
 | [], d, _ => by simp [manyFL, sizeFL]
 | t :: l, d, h => by
   simp only [formFL] at h
   have h1 := manyF_size t (d - 1) h.1
   have h2 := manyFL_size l d h.2
   have h3 : 0 < d := by
    cases t with
    | mk k n s v r => have := h.1; simp only [formF] at this; omega
   simp only [manyFL, sizeFL]
   rw [if_pos h3]; omega
end
end Go.Proofs.Pw
namespace Go.Proofs.Pw
variable [Globs]
def T.kind : T -> Int | .mk k _ _ _ _ => k
def T.n : T -> Int | .mk _ n _ _ _ => n
def T.s : T -> ByteArray | .mk _ _ s _ _ => s
def T.keys : T -> List ByteArray | .mk _ _ _ ks _ => ks
def T.list : T -> List T | .mk _ _ _ _ l => l
def rowT (t : T) : Prop := okT t /\ t.kind = 5
noncomputable instance (t : T) : Decidable (rowT t) := Classical.propDecidable _
end Go.Proofs.Pw
namespace Go.Proofs.Pw
structure IsCmp {α : Type} (f : α -> α -> Int) : Prop where
 rng : ∀ a b, f a b = -1 \/ f a b = 0 \/ f a b = 1
 eq : ∀ a b, f a b = 0 ↔ a = b
 anti : ∀ a b, f b a = - f a b
 trans : ∀ a b c, f a b = -1 -> f b c = -1 -> f a c = -1
def cmpI (a b : Int) : Int := if a < b then -1 else if b < a then 1 else 0
theorem cmpI_is : IsCmp cmpI := by
 refine ⟨fun a b => ?_, fun a b => ?_, fun a b => ?_, fun a b c => ?_⟩ <;> simp only [cmpI] <;> repeat' split
 all_goals omega
theorem sl_irrefl (a : ByteArray) : ¬ sl a a := fun h => (sl_tri a a).2 h (.inr rfl)
theorem sl_asymm {a b : ByteArray} (h : sl a b) : ¬ sl b a := fun k => (sl_tri a b).2 k (.inl h)
theorem sl_or (a b : ByteArray) : sl a b \/ a = b \/ sl b a := by
 by_cases h : sl a b \/ a = b
 ·rcases h with h | h
  ·exact .inl h
  ·exact .inr (.inl h)
 ·exact .inr (.inr ((sl_tri a b).1 h))
theorem bl_trans : ∀ (x y z : List UInt8), Op.bytesLess x y = true -> Op.bytesLess y z = true -> Op.bytesLess x z = true := by
 intro x
 induction x with
 | nil => intro y z h k; cases y <;> cases z <;> simp [Op.bytesLess] at *
 | cons a x ih =>
   intro y z h k
   cases y with
   | nil => simp [Op.bytesLess] at h
   | cons b y =>
     cases z with
     | nil => simp [Op.bytesLess] at k
     | cons c z =>
       simp only [Op.bytesLess, Bool.or_eq_true, decide_eq_true_eq, Bool.and_eq_true, beq_iff_eq] at h k ⊢
       rcases h with h | ⟨rfl, h⟩
       ·rcases k with k | ⟨rfl, k⟩
        ·exact .inl (UInt8.lt_trans h k)
        ·exact .inl h
       ·rcases k with k | ⟨rfl, k⟩
        ·exact .inl k
        ·exact .inr ⟨rfl, ih _ _ h k⟩
theorem sl_trans {a b c : ByteArray} (h : sl a b) (k : sl b c) : sl a c := bl_trans _ _ _ h k
def cmpS (a b : ByteArray) : Int := if sl a b then -1 else if sl b a then 1 else 0
theorem cmpS_is : IsCmp cmpS := by
 refine ⟨fun a b => ?_, fun a b => ?_, fun a b => ?_, fun a b c => ?_⟩ <;> simp only [cmpS]
 ·repeat' split
  all_goals omega
 ·rcases sl_or a b with h | rfl | h
  ·rw [if_pos h]; exact ⟨fun e => by omega, fun e => by subst e; exact absurd h (sl_irrefl a)⟩
  ·simp [sl_irrefl]
  ·rw [if_neg (sl_asymm h), if_pos h]; exact ⟨fun e => by omega, fun e => by subst e; exact absurd h (sl_irrefl a)⟩
 ·rcases sl_or a b with h | rfl | h
  ·simp [h, sl_asymm h]
  ·simp [sl_irrefl]
  ·simp [h, sl_asymm h]
 ·intro h k
  have h' : sl a b := by
   by_cases e : sl a b
   ·exact e
   ·rw [if_neg e] at h; split at h <;> omega
  have k' : sl b c := by
   by_cases e : sl b c
   ·exact e
   ·rw [if_neg e] at k; split at k <;> omega
  rw [if_pos (sl_trans h' k')]
def thenI (a b : Int) : Int := if a = 0 then b else a
def cmpL {α : Type} (f : α -> α -> Int) : List α -> List α -> Int
 | [], [] => 0
 | [], _ :: _ => -1
 | _ :: _, [] => 1
 | a :: x, b :: y => thenI (f a b) (cmpL f x y)
structure CmpAt {α : Type} (f : α -> α -> Int) (a : α) : Prop where
 rng : ∀ b, f a b = -1 \/ f a b = 0 \/ f a b = 1
 eq : ∀ b, f a b = 0 ↔ a = b
 anti : ∀ b, f b a = - f a b
 trans : ∀ b c, f a b = -1 -> f b c = -1 -> f a c = -1
theorem IsCmp.at {α : Type} {f : α -> α -> Int} (h : IsCmp f) (a : α) : CmpAt f a := ⟨h.rng a, h.eq a, h.anti a, h.trans a⟩
mutual
def cmpT : T -> T -> Int
 | .mk k n s ks l, .mk k' n' s' ks' l' => thenI (cmpI k k') (thenI (cmpI n n') (thenI (cmpS s s') (thenI (cmpL cmpS ks ks') (cmpTL l l'))))
def cmpTL : List T -> List T -> Int
 | [], [] => 0
 | [], _ :: _ => -1
 | _ :: _, [] => 1
 | a :: x, b :: y => thenI (cmpT a b) (cmpTL x y)
end
theorem thenI_rng {a b : Int} (h : a = -1 \/ a = 0 \/ a = 1) (k : b = -1 \/ b = 0 \/ b = 1) : thenI a b = -1 \/ thenI a b = 0 \/ thenI a b = 1 := by
 unfold thenI; split <;> assumption
theorem thenI_zero {a b : Int} : thenI a b = 0 ↔ a = 0 /\ b = 0 := by
 unfold thenI; split <;> simp_all
theorem thenI_neg {a b : Int} : thenI (-a) (-b) = - thenI a b := by
 unfold thenI; split <;> split <;> omega
theorem thenI_trans {α β : Type} {f : α -> α -> Int} {g : β -> β -> Int} {a b c : α} {x y z : β} (heq : ∀ u v, f u v = 0 ↔ u = v) (hf : f a b = -1 -> f b c = -1 -> f a c = -1) (hg : g x y = -1 -> g y z = -1 -> g x z = -1)
 (h : thenI (f a b) (g x y) = -1) (k : thenI (f b c) (g y z) = -1) : thenI (f a c) (g x z) = -1 := by
 unfold thenI at *
 by_cases h1 : f a b = 0
 ·have := (heq a b).1 h1; subst this
  rw [if_pos h1] at h
  by_cases h2 : f a c = 0
  ·rw [if_pos h2] at k ⊢; exact hg h k
  ·rw [if_neg h2] at k ⊢; exact k
 ·rw [if_neg h1] at h
  by_cases h2 : f b c = 0
  ·have := (heq b c).1 h2; subst this
   rw [if_neg h1]; exact h
  ·rw [if_neg h2] at k
   have := hf h k
   rw [if_neg (by omega)]; exact this
theorem cmpL_is {α : Type} {f : α -> α -> Int} (h : IsCmp f) : IsCmp (cmpL f) := by
 have key : ∀ a, CmpAt (cmpL f) a := by
  intro a
  induction a with
  | nil =>
    refine ⟨fun b => ?_, fun b => ?_, fun b => ?_, fun b c => ?_⟩
    ·cases b <;> simp [cmpL]
    ·cases b <;> simp [cmpL]
    ·cases b <;> simp [cmpL]
    ·cases b <;> cases c <;> simp [cmpL]
  | cons x a ih =>
    refine ⟨fun b => ?_, fun b => ?_, fun b => ?_, fun b c => ?_⟩
    ·cases b with
     | nil => simp [cmpL]
     | cons y b => exact thenI_rng (h.rng x y) (ih.rng b)
    ·cases b with
     | nil => simp [cmpL]
     | cons y b => simp only [cmpL, thenI_zero, h.eq, ih.eq, List.cons.injEq]
    ·cases b with
     | nil => simp [cmpL]
     | cons y b => simp only [cmpL]; rw [h.anti x y, ih.anti b, thenI_neg]
    ·cases b with
     | nil => simp [cmpL]
     | cons y b =>
       cases c with
       | nil => intro _ k; simp [cmpL] at k
       | cons z c => exact fun h1 h2 => thenI_trans h.eq (h.trans x y z) (ih.trans b c) h1 h2
 exact ⟨fun a => (key a).rng, fun a => (key a).eq, fun a => (key a).anti, fun a => (key a).trans⟩
theorem cmpK_is : IsCmp (cmpL cmpS) := cmpL_is cmpS_is
mutual
theorem cmpT_at : ∀ (a : T), CmpAt cmpT a
 | .mk k n s ks l => by
   have ih := cmpTL_at l
   refine ⟨fun b => ?_, fun b => ?_, fun b => ?_, fun b c => ?_⟩
   ·obtain ⟨k', n', s', ks', l'⟩ := b
    exact thenI_rng (cmpI_is.rng _ _) (thenI_rng (cmpI_is.rng _ _) (thenI_rng (cmpS_is.rng _ _) (thenI_rng (cmpK_is.rng _ _) (ih.rng _))))
   ·obtain ⟨k', n', s', ks', l'⟩ := b
    simp only [cmpT, thenI_zero, cmpI_is.eq, cmpS_is.eq, cmpK_is.eq, ih.eq, T.mk.injEq]
   ·obtain ⟨k', n', s', ks', l'⟩ := b
    simp only [cmpT]
    rw [cmpI_is.anti k k', cmpI_is.anti n n', cmpS_is.anti s s', cmpK_is.anti ks ks', ih.anti l', thenI_neg, thenI_neg, thenI_neg, thenI_neg]
   ·obtain ⟨k', n', s', ks', l'⟩ := b
    obtain ⟨k2, n2, s2, ks2, l2⟩ := c
    simp only [cmpT]
    exact thenI_trans cmpI_is.eq (cmpI_is.trans _ _ _) (thenI_trans (f := cmpI) (g := fun (u v : ByteArray × List ByteArray × List T) => thenI (cmpS u.1 v.1) (thenI (cmpL cmpS u.2.1 v.2.1) (cmpTL u.2.2 v.2.2))) (x := (s, ks, l)) (y := (s', ks', l')) (z := (s2, ks2, l2)) cmpI_is.eq (cmpI_is.trans _ _ _)
     (thenI_trans (f := cmpS) (g := fun (u v : List ByteArray × List T) => thenI (cmpL cmpS u.1 v.1) (cmpTL u.2 v.2)) (x := (ks, l)) (y := (ks', l')) (z := (ks2, l2)) cmpS_is.eq (cmpS_is.trans _ _ _) (thenI_trans cmpK_is.eq (cmpK_is.trans _ _ _) (ih.trans _ _))))
     (f := cmpI) (g := fun (u v : Int × ByteArray × List ByteArray × List T) => thenI (cmpI u.1 v.1) (thenI (cmpS u.2.1 v.2.1) (thenI (cmpL cmpS u.2.2.1 v.2.2.1) (cmpTL u.2.2.2 v.2.2.2)))) (x := (n, s, ks, l)) (y := (n', s', ks', l')) (z := (n2, s2, ks2, l2))
theorem cmpTL_at : ∀ (a : List T), CmpAt cmpTL a
 | [] => by
   refine ⟨fun b => ?_, fun b => ?_, fun b => ?_, fun b c => ?_⟩
   ·cases b <;> simp [cmpTL]
   ·cases b <;> simp [cmpTL]
   ·cases b <;> simp [cmpTL]
   ·cases b <;> cases c <;> simp [cmpTL]
 | x :: a => by
   have h := cmpT_at x
   have ih := cmpTL_at a
   refine ⟨fun b => ?_, fun b => ?_, fun b => ?_, fun b c => ?_⟩
   ·cases b with
    | nil => simp [cmpTL]
    | cons y b => exact thenI_rng (h.rng y) (ih.rng b)
   ·cases b with
    | nil => simp [cmpTL]
    | cons y b => simp only [cmpTL, thenI_zero, h.eq, ih.eq, List.cons.injEq]
   ·cases b with
    | nil => simp [cmpTL]
    | cons y b => simp only [cmpTL]; rw [h.anti y, ih.anti b, thenI_neg]
   ·cases b with
    | nil => simp [cmpTL]
    | cons y b =>
      cases c with
      | nil => intro _ k; simp [cmpTL] at k
      | cons z c =>
        intro h1 h2
        simp only [cmpTL] at *
        unfold thenI at *
        by_cases e1 : cmpT x y = 0
        ·have := (h.eq y).1 e1; subst this
         rw [if_pos e1] at h1
         by_cases e2 : cmpT x z = 0
         ·rw [if_pos e2] at h2 ⊢; exact ih.trans b c h1 h2
         ·rw [if_neg e2] at h2 ⊢; exact h2
        ·rw [if_neg e1] at h1
         by_cases e2 : cmpT y z = 0
         ·have e3 : cmpT x z = -1 := by
           have e4 : y = z := by
            by_cases e5 : y = z
            ·exact e5
            ·exact absurd e2 (fun e => e5 ((cmpT_zero y z).1 e))
           subst e4; exact h1
          rw [if_neg (by omega)]; exact e3
         ·rw [if_neg e2] at h2
          have := h.trans y z h1 h2
          rw [if_neg (by omega)]; exact this
theorem cmpT_zero : ∀ (a b : T), cmpT a b = 0 ↔ a = b
 | .mk k n s ks l, .mk k' n' s' ks' l' => by
   simp only [cmpT, thenI_zero, cmpI_is.eq, cmpS_is.eq, cmpK_is.eq, cmpTL_zero l l', T.mk.injEq]
theorem cmpTL_zero : ∀ (a b : List T), cmpTL a b = 0 ↔ a = b
 | [], [] => by simp [cmpTL]
 | [], _ :: _ => by simp [cmpTL]
 | _ :: _, [] => by simp [cmpTL]
 | a :: x, b :: y => by simp only [cmpTL, thenI_zero, cmpT_zero a b, cmpTL_zero x y, List.cons.injEq]
end
theorem IsCmp.le_trans {α : Type} {f : α -> α -> Int} (h : IsCmp f) {a b c : α} (h1 : f a b <= 0) (h2 : f b c <= 0) : f a c <= 0 := by
 rcases h.rng a b with e | e | e
 ·rcases h.rng b c with e' | e' | e'
  ·have := h.trans a b c e e'; omega
  ·have := (h.eq b c).1 e'; subst this; omega
  ·omega
 ·have := (h.eq a b).1 e; subst this; exact h2
 ·omega
theorem IsCmp.total {α : Type} {f : α -> α -> Int} (h : IsCmp f) {a b : α} (h1 : ¬ f a b <= 0) : f b a <= 0 := by
 have := h.anti a b; omega
def insC {α : Type} (f : α -> α -> Int) (v : α) : List α -> List α
 | [] => [v]
 | x :: l => if f x v <= 0 then x :: insC f v l else v :: x :: l
def sortC {α : Type} (f : α -> α -> Int) (l : List α) : List α := l.foldl (fun acc x => insC f x acc) []
end Go.Proofs.Pw
namespace Go.Proofs.Pw
variable [Globs]
end Go.Proofs.Pw
namespace Go.Proofs.Pw
variable [Globs]
end Go.Proofs.Pw
namespace Go.Proofs.Pw
variable [Globs]
end Go.Proofs.Pw
namespace Go.Proofs.Pw
variable [Globs]
end Go.Proofs.Pw
namespace Go.Proofs.Pw
variable [Globs]
def leastOk (v : T) : Prop := rowT v /\ okT ((sortC cmpT v.list).headD T.zero)
noncomputable instance (t : T) : Decidable (leastOk t) := Classical.propDecidable _
end Go.Proofs.Pw
namespace Go.Proofs.Pw
variable [Globs]
mutual
theorem formT_mono {d e : Int} (h : d <= e) : ∀ {t : T}, formT t d -> formT t e
 | .mk k n s ks l, hf => by
   simp only [formT] at hf ⊢
   obtain ⟨h1, h2, h3, h4, h5, h6, h7, h8, h9, h10, h11, h12⟩ := hf
   exact ⟨by omega, h2, h3, h4, h5, h6, h7, h8, h9, h10, h11, formL_mono (by omega) h12⟩
theorem formL_mono {d e : Int} (h : d <= e) : ∀ {l : List T}, formL l d -> formL l e
 | [], _ => trivial
 | _ :: _, hf => ⟨formT_mono h hf.1, formL_mono h hf.2⟩
end
mutual
theorem manyT_deep {d e : Int} (h : d <= e) : ∀ {t : T}, formT t d -> manyT t e = manyT t d
 | .mk k n s ks l, hf => by
   simp only [formT] at hf
   simp only [manyT]
   rw [manyL_deep (d := d) (e := e) h hf.1 hf.2.2.2.2.2.2.2.2.2.2.2]
theorem manyL_deep {d e : Int} (h : d <= e) (h1 : 1 <= d) : ∀ {l : List T}, formL l (d - 1) -> manyL l e = manyL l d
 | [], _ => by simp [manyL]
 | t :: l, hf => by
   simp only [manyL]
   rw [if_pos (by omega), if_pos (by omega), manyT_deep (d := d - 1) (e := e - 1) (by omega) hf.1, manyL_deep h h1 hf.2]
end
end Go.Proofs.Pw
