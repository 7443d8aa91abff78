/- The order of trees. -/
import Derived.Test.YtaiacpgnnfinlaaDoorPwT10
import Derived.Test.YtaiacpgnnfinlaaDoorProg
import Derived.KernelRfl
import Derived.Test.YtaiacpgnnfinlaaDoorPwT13
set_option linter.unusedSimpArgs false
set_option linter.unusedVariables false
namespace Go.Proofs.Pw
/-- A comparison: a total order, told by a number. -/
structure IsCmp {α : Type} (f : α → α → Int) : Prop where
  rng : ∀ a b, f a b = -1 ∨ f a b = 0 ∨ f a b = 1
  eq : ∀ a b, f a b = 0 ↔ a = b
  anti : ∀ a b, f b a = - f a b
  trans : ∀ a b c, f a b = -1 → f b c = -1 → f a c = -1
def cmpI (a b : Int) : Int := if a < b then -1 else if b < a then 1 else 0
theorem cmpI_is : IsCmp cmpI := by
  refine ⟨fun a b => ?_, fun a b => ?_, fun a b => ?_, fun a b c => ?_⟩ <;> simp only [cmpI] <;> repeat' split
  all_goals omega
theorem sl_irrefl (a : ByteArray) : ¬ sl a a := fun h => (sl_tri a a).2 h (.inr rfl)
theorem sl_asymm {a b : ByteArray} (h : sl a b) : ¬ sl b a := fun k => (sl_tri a b).2 k (.inl h)
theorem sl_or (a b : ByteArray) : sl a b ∨ a = b ∨ sl b a := by
  by_cases h : sl a b ∨ a = b
  · rcases h with h | h
    · exact .inl h
    · exact .inr (.inl h)
  · exact .inr (.inr ((sl_tri a b).1 h))
theorem bl_trans : ∀ (x y z : List UInt8), Op.bytesLess x y = true → Op.bytesLess y z = true → Op.bytesLess x z = true := by
  intro x
  induction x with
  | nil => intro y z h k; cases y <;> cases z <;> simp [Op.bytesLess] at *
  | cons a x ih =>
    intro y z h k
    cases y with
    | nil => simp [Op.bytesLess] at h
    | cons b y =>
      cases z with
      | nil => simp [Op.bytesLess] at k
      | cons c z =>
        simp only [Op.bytesLess, Bool.or_eq_true, decide_eq_true_eq, Bool.and_eq_true, beq_iff_eq] at h k ⊢
        rcases h with h | ⟨rfl, h⟩
        · rcases k with k | ⟨rfl, k⟩
          · exact .inl (UInt8.lt_trans h k)
          · exact .inl h
        · rcases k with k | ⟨rfl, k⟩
          · exact .inl k
          · exact .inr ⟨rfl, ih _ _ h k⟩
theorem sl_trans {a b c : ByteArray} (h : sl a b) (k : sl b c) : sl a c := bl_trans _ _ _ h k
def cmpS (a b : ByteArray) : Int := if sl a b then -1 else if sl b a then 1 else 0
theorem cmpS_is : IsCmp cmpS := by
  refine ⟨fun a b => ?_, fun a b => ?_, fun a b => ?_, fun a b c => ?_⟩ <;> simp only [cmpS]
  · repeat' split
    all_goals omega
  · rcases sl_or a b with h | rfl | h
    · rw [if_pos h]; exact ⟨fun e => by omega, fun e => by subst e; exact absurd h (sl_irrefl a)⟩
    · simp [sl_irrefl]
    · rw [if_neg (sl_asymm h), if_pos h]; exact ⟨fun e => by omega, fun e => by subst e; exact absurd h (sl_irrefl a)⟩
  · rcases sl_or a b with h | rfl | h
    · simp [h, sl_asymm h]
    · simp [sl_irrefl]
    · simp [h, sl_asymm h]
  · intro h k
    have h' : sl a b := by
      by_cases e : sl a b
      · exact e
      · rw [if_neg e] at h; split at h <;> omega
    have k' : sl b c := by
      by_cases e : sl b c
      · exact e
      · rw [if_neg e] at k; split at k <;> omega
    rw [if_pos (sl_trans h' k')]
/-- First by the one, then by the other. -/
def thenI (a b : Int) : Int := if a = 0 then b else a
/-- By the first that differs; what is shorter is ahead. -/
def cmpL {α : Type} (f : α → α → Int) : List α → List α → Int
  | [], [] => 0
  | [], _ :: _ => -1
  | _ :: _, [] => 1
  | a :: x, b :: y => thenI (f a b) (cmpL f x y)
/-- What is asked of a comparison at one element, against all others. -/
structure CmpAt {α : Type} (f : α → α → Int) (a : α) : Prop where
  rng : ∀ b, f a b = -1 ∨ f a b = 0 ∨ f a b = 1
  eq : ∀ b, f a b = 0 ↔ a = b
  anti : ∀ b, f b a = - f a b
  trans : ∀ b c, f a b = -1 → f b c = -1 → f a c = -1
theorem IsCmp.at {α : Type} {f : α → α → Int} (h : IsCmp f) (a : α) : CmpAt f a := ⟨h.rng a, h.eq a, h.anti a, h.trans a⟩
mutual
def cmpT : T → T → Int
  | .mk k n s ks l, .mk k' n' s' ks' l' => thenI (cmpI k k') (thenI (cmpI n n') (thenI (cmpS s s') (thenI (cmpL cmpS ks ks') (cmpTL l l'))))
def cmpTL : List T → List T → Int
  | [], [] => 0
  | [], _ :: _ => -1
  | _ :: _, [] => 1
  | a :: x, b :: y => thenI (cmpT a b) (cmpTL x y)
end
theorem thenI_rng {a b : Int} (h : a = -1 ∨ a = 0 ∨ a = 1) (k : b = -1 ∨ b = 0 ∨ b = 1) : thenI a b = -1 ∨ thenI a b = 0 ∨ thenI a b = 1 := by
  unfold thenI; split <;> assumption
theorem thenI_zero {a b : Int} : thenI a b = 0 ↔ a = 0 ∧ b = 0 := by
  unfold thenI; split <;> simp_all
theorem thenI_neg {a b : Int} : thenI (-a) (-b) = - thenI a b := by
  unfold thenI; split <;> split <;> omega
/-- Two keys, one behind the other. -/
theorem thenI_trans {α β : Type} {f : α → α → Int} {g : β → β → Int} {a b c : α} {x y z : β} (heq : ∀ u v, f u v = 0 ↔ u = v) (hf : f a b = -1 → f b c = -1 → f a c = -1) (hg : g x y = -1 → g y z = -1 → g x z = -1)
    (h : thenI (f a b) (g x y) = -1) (k : thenI (f b c) (g y z) = -1) : thenI (f a c) (g x z) = -1 := by
  unfold thenI at *
  by_cases h1 : f a b = 0
  · have := (heq a b).1 h1; subst this
    rw [if_pos h1] at h
    by_cases h2 : f a c = 0
    · rw [if_pos h2] at k ⊢; exact hg h k
    · rw [if_neg h2] at k ⊢; exact k
  · rw [if_neg h1] at h
    by_cases h2 : f b c = 0
    · have := (heq b c).1 h2; subst this
      rw [if_neg h1]; exact h
    · rw [if_neg h2] at k
      have := hf h k
      rw [if_neg (by omega)]; exact this
theorem cmpL_is {α : Type} {f : α → α → Int} (h : IsCmp f) : IsCmp (cmpL f) := by
  have key : ∀ a, CmpAt (cmpL f) a := by
    intro a
    induction a with
    | nil =>
      refine ⟨fun b => ?_, fun b => ?_, fun b => ?_, fun b c => ?_⟩
      · cases b <;> simp [cmpL]
      · cases b <;> simp [cmpL]
      · cases b <;> simp [cmpL]
      · cases b <;> cases c <;> simp [cmpL]
    | cons x a ih =>
      refine ⟨fun b => ?_, fun b => ?_, fun b => ?_, fun b c => ?_⟩
      · cases b with
        | nil => simp [cmpL]
        | cons y b => exact thenI_rng (h.rng x y) (ih.rng b)
      · cases b with
        | nil => simp [cmpL]
        | cons y b => simp only [cmpL, thenI_zero, h.eq, ih.eq, List.cons.injEq]
      · cases b with
        | nil => simp [cmpL]
        | cons y b => simp only [cmpL]; rw [h.anti x y, ih.anti b, thenI_neg]
      · cases b with
        | nil => simp [cmpL]
        | cons y b =>
          cases c with
          | nil => intro _ k; simp [cmpL] at k
          | cons z c => exact fun h1 h2 => thenI_trans h.eq (h.trans x y z) (ih.trans b c) h1 h2
  exact ⟨fun a => (key a).rng, fun a => (key a).eq, fun a => (key a).anti, fun a => (key a).trans⟩
theorem cmpK_is : IsCmp (cmpL cmpS) := cmpL_is cmpS_is
mutual
theorem cmpT_at : ∀ (a : T), CmpAt cmpT a
  | .mk k n s ks l => by
    have ih := cmpTL_at l
    refine ⟨fun b => ?_, fun b => ?_, fun b => ?_, fun b c => ?_⟩
    · obtain ⟨k', n', s', ks', l'⟩ := b
      exact thenI_rng (cmpI_is.rng _ _) (thenI_rng (cmpI_is.rng _ _) (thenI_rng (cmpS_is.rng _ _) (thenI_rng (cmpK_is.rng _ _) (ih.rng _))))
    · obtain ⟨k', n', s', ks', l'⟩ := b
      simp only [cmpT, thenI_zero, cmpI_is.eq, cmpS_is.eq, cmpK_is.eq, ih.eq, T.mk.injEq]
    · obtain ⟨k', n', s', ks', l'⟩ := b
      simp only [cmpT]
      rw [cmpI_is.anti k k', cmpI_is.anti n n', cmpS_is.anti s s', cmpK_is.anti ks ks', ih.anti l', thenI_neg, thenI_neg, thenI_neg, thenI_neg]
    · obtain ⟨k', n', s', ks', l'⟩ := b
      obtain ⟨k2, n2, s2, ks2, l2⟩ := c
      simp only [cmpT]
      exact thenI_trans cmpI_is.eq (cmpI_is.trans _ _ _) (thenI_trans (f := cmpI) (g := fun (u v : ByteArray × List ByteArray × List T) => thenI (cmpS u.1 v.1) (thenI (cmpL cmpS u.2.1 v.2.1) (cmpTL u.2.2 v.2.2))) (x := (s, ks, l)) (y := (s', ks', l')) (z := (s2, ks2, l2)) cmpI_is.eq (cmpI_is.trans _ _ _)
        (thenI_trans (f := cmpS) (g := fun (u v : List ByteArray × List T) => thenI (cmpL cmpS u.1 v.1) (cmpTL u.2 v.2)) (x := (ks, l)) (y := (ks', l')) (z := (ks2, l2)) cmpS_is.eq (cmpS_is.trans _ _ _) (thenI_trans cmpK_is.eq (cmpK_is.trans _ _ _) (ih.trans _ _))))
        (f := cmpI) (g := fun (u v : Int × ByteArray × List ByteArray × List T) => thenI (cmpI u.1 v.1) (thenI (cmpS u.2.1 v.2.1) (thenI (cmpL cmpS u.2.2.1 v.2.2.1) (cmpTL u.2.2.2 v.2.2.2)))) (x := (n, s, ks, l)) (y := (n', s', ks', l')) (z := (n2, s2, ks2, l2))
theorem cmpTL_at : ∀ (a : List T), CmpAt cmpTL a
  | [] => by
    refine ⟨fun b => ?_, fun b => ?_, fun b => ?_, fun b c => ?_⟩
    · cases b <;> simp [cmpTL]
    · cases b <;> simp [cmpTL]
    · cases b <;> simp [cmpTL]
    · cases b <;> cases c <;> simp [cmpTL]
  | x :: a => by
    have h := cmpT_at x
    have ih := cmpTL_at a
    refine ⟨fun b => ?_, fun b => ?_, fun b => ?_, fun b c => ?_⟩
    · cases b with
      | nil => simp [cmpTL]
      | cons y b => exact thenI_rng (h.rng y) (ih.rng b)
    · cases b with
      | nil => simp [cmpTL]
      | cons y b => simp only [cmpTL, thenI_zero, h.eq, ih.eq, List.cons.injEq]
    · cases b with
      | nil => simp [cmpTL]
      | cons y b => simp only [cmpTL]; rw [h.anti y, ih.anti b, thenI_neg]
    · cases b with
      | nil => simp [cmpTL]
      | cons y b =>
        cases c with
        | nil => intro _ k; simp [cmpTL] at k
        | cons z c =>
          intro h1 h2
          simp only [cmpTL] at *
          unfold thenI at *
          by_cases e1 : cmpT x y = 0
          · have := (h.eq y).1 e1; subst this
            rw [if_pos e1] at h1
            by_cases e2 : cmpT x z = 0
            · rw [if_pos e2] at h2 ⊢; exact ih.trans b c h1 h2
            · rw [if_neg e2] at h2 ⊢; exact h2
          · rw [if_neg e1] at h1
            by_cases e2 : cmpT y z = 0
            · have e3 : cmpT x z = -1 := by
                have e4 : y = z := by
                  by_cases e5 : y = z
                  · exact e5
                  · exact absurd e2 (fun e => e5 ((cmpT_zero y z).1 e))
                subst e4; exact h1
              rw [if_neg (by omega)]; exact e3
            · rw [if_neg e2] at h2
              have := h.trans y z h1 h2
              rw [if_neg (by omega)]; exact this
theorem cmpT_zero : ∀ (a b : T), cmpT a b = 0 ↔ a = b
  | .mk k n s ks l, .mk k' n' s' ks' l' => by
    simp only [cmpT, thenI_zero, cmpI_is.eq, cmpS_is.eq, cmpK_is.eq, cmpTL_zero l l', T.mk.injEq]
theorem cmpTL_zero : ∀ (a b : List T), cmpTL a b = 0 ↔ a = b
  | [], [] => by simp [cmpTL]
  | [], _ :: _ => by simp [cmpTL]
  | _ :: _, [] => by simp [cmpTL]
  | a :: x, b :: y => by simp only [cmpTL, thenI_zero, cmpT_zero a b, cmpTL_zero x y, List.cons.injEq]
end
/-! ### Sorting -/
theorem IsCmp.le_trans {α : Type} {f : α → α → Int} (h : IsCmp f) {a b c : α} (h1 : f a b ≤ 0) (h2 : f b c ≤ 0) : f a c ≤ 0 := by
  rcases h.rng a b with e | e | e
  · rcases h.rng b c with e' | e' | e'
    · have := h.trans a b c e e'; omega
    · have := (h.eq b c).1 e'; subst this; omega
    · omega
  · have := (h.eq a b).1 e; subst this; exact h2
  · omega
theorem IsCmp.total {α : Type} {f : α → α → Int} (h : IsCmp f) {a b : α} (h1 : ¬ f a b ≤ 0) : f b a ≤ 0 := by
  have := h.anti a b; omega
/-- Put behind all that are the same. -/
def insC {α : Type} (f : α → α → Int) (v : α) : List α → List α
  | [] => [v]
  | x :: l => if f x v ≤ 0 then x :: insC f v l else v :: x :: l
def sortC {α : Type} (f : α → α → Int) (l : List α) : List α := l.foldl (fun acc x => insC f x acc) []
end Go.Proofs.Pw
/- The order of trees: the specification's functions. -/
set_option linter.unusedSimpArgs false
set_option maxRecDepth 20000
namespace Go.Proofs.Pw
set_option linter.unusedSectionVars false
variable [Globs]
end Go.Proofs.Pw
/- The order of trees: the program's functions. -/
set_option linter.unusedSimpArgs false
set_option maxRecDepth 20000
namespace Go.Proofs.Pw
set_option linter.unusedSectionVars false
variable [Globs]
end Go.Proofs.Pw
/- Rows in order: the program's functions. -/
set_option linter.unusedSimpArgs false
set_option maxRecDepth 20000
namespace Go.Proofs.Pw
set_option linter.unusedSectionVars false
variable [Globs]
end Go.Proofs.Pw
/- Rows in order: the stable sort of short rows; the specification's. -/
set_option linter.unusedSimpArgs false
set_option maxRecDepth 20000
namespace Go.Proofs.Pw
set_option linter.unusedSectionVars false
variable [Globs]
end Go.Proofs.Pw
/- Rows: the least, a piece. -/
set_option linter.unusedSimpArgs false
set_option maxRecDepth 20000
namespace Go.Proofs.Pw
set_option linter.unusedSectionVars false
variable [Globs]
def leastOk (v : T) : Prop := rowT v ∧ okT ((sortC cmpT v.list).headD T.zero)
noncomputable instance (t : T) : Decidable (leastOk t) := Classical.propDecidable _
end Go.Proofs.Pw
/- Trees that are ok: their parts, and rows of some of them. -/
set_option linter.unusedSectionVars false
namespace Go.Proofs.Pw
variable [Globs]
mutual
theorem formT_mono {d e : Int} (h : d ≤ e) : ∀ {t : T}, formT t d → formT t e
  | .mk k n s ks l, hf => by
    simp only [formT] at hf ⊢
    obtain ⟨h1, h2, h3, h4, h5, h6, h7, h8, h9, h10, h11, h12⟩ := hf
    exact ⟨by omega, h2, h3, h4, h5, h6, h7, h8, h9, h10, h11, formL_mono (by omega) h12⟩
theorem formL_mono {d e : Int} (h : d ≤ e) : ∀ {l : List T}, formL l d → formL l e
  | [], _ => trivial
  | _ :: _, hf => ⟨formT_mono h hf.1, formL_mono h hf.2⟩
end
mutual
theorem manyT_deep {d e : Int} (h : d ≤ e) : ∀ {t : T}, formT t d → manyT t e = manyT t d
  | .mk k n s ks l, hf => by
    simp only [formT] at hf
    simp only [manyT]
    rw [manyL_deep (d := d) (e := e) h hf.1 hf.2.2.2.2.2.2.2.2.2.2.2]
theorem manyL_deep {d e : Int} (h : d ≤ e) (h1 : 1 ≤ d) : ∀ {l : List T}, formL l (d - 1) → manyL l e = manyL l d
  | [], _ => by simp [manyL]
  | t :: l, hf => by
    simp only [manyL]
    rw [if_pos (by omega), if_pos (by omega), manyT_deep (d := d - 1) (e := e - 1) (by omega) hf.1, manyL_deep h h1 hf.2]
end
end Go.Proofs.Pw
/- Rows, each tree once. -/
namespace Go.Proofs.Pw
end Go.Proofs.Pw
/- Rows, grouped by what stands under a key. -/
namespace Go.Proofs.Pw
set_option linter.unusedSectionVars false
variable [Globs]
/-- Where in a list of keys a key is, from i on. -/
def idxS (x : ByteArray) : Nat → List ByteArray → Int
  | _, [] => -1
  | i, y :: r => if x = y then i else idxS x (i + 1) r
open Classical in
/-- What stands under a key. -/
noncomputable def getT (key : ByteArray) (v : T) : T := if v.kind = 6 ∧ 0 ≤ idxS key 0 v.keys then v.list.getD (idxS key 0 v.keys).toNat T.zero else T.zero
def getOk (v : T) : Prop := v.kind = 6 ∨ v.kind = 0
noncomputable instance (v : T) : Decidable (getOk v) := Classical.propDecidable _
noncomputable def marks (key : ByteArray) (l : List T) : List T := l.map (getT key)
def byOk (v : T) (key : ByteArray) : Prop := rowT v ∧ okS key ∧ ∀ x ∈ v.list, getOk x
noncomputable instance (v : T) (key : ByteArray) : Decidable (byOk v key) := Classical.propDecidable _
end Go.Proofs.Pw
