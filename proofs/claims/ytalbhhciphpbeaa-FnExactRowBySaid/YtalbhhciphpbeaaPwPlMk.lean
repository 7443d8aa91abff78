/- Marks: what the laws write into trees, and look for. -/
import Derived.Test.YtalbhhciphpbeaaPwD
import Derived.Test.YtalbhhciphpbeaaPwTreeX
set_option linter.unusedSimpArgs false
set_option linter.unusedVariables false
namespace Go.Proofs.Pw
theorem encLX_eq {a b : List T} : encLX a = encLX b ↔ a = b := ⟨fun h => by
  have h1 := dtR_encLX a
  rw [h, dtR_encLX b] at h1
  exact (encL_inj (Option.some.inj h1)).symm, fun h => h ▸ rfl⟩
theorem agX_eq {a b : T} : agX a = agX b ↔ a = b := ⟨fun h => by
  cases a; cases b
  simp only [agX, List.cons.injEq, Pt.c.injEq, Pt.o.injEq, C.int.injEq, C.str.injEq, true_and, and_true] at h
  obtain ⟨h1, h2, h3, h4, h5⟩ := h
  rw [h1, h2, h3, strs_inj h4, encLX_eq.1 h5], fun h => h ▸ rfl⟩
def digF : Nat → Int → ByteArray → ByteArray
  | 0, _, out => out
  | f + 1, k, out => if 0 < k then digF f (k.tdiv 10) (bytesS [48 + k.tmod 10] ++ out) else out
def mkS (k : Int) : ByteArray := if k ≤ 0 then ⟨#[109, 48]⟩ else ⟨#[109]⟩ ++ digF k.toNat k ⟨#[]⟩
theorem digF_pos {f : Nat} {k : Int} {out : ByteArray} (h : 0 < k) : digF (f + 1) k out = digF f (k.tdiv 10) (bytesS [48 + k.tmod 10] ++ out) := by simp [digF, h]
theorem digF_stop {f : Nat} {k : Int} {out : ByteArray} (h : ¬ 0 < k) : digF f k out = out := by cases f <;> simp [digF, h]
theorem digF_more : ∀ {f g : Nat} {k : Int} {out : ByteArray}, k.toNat ≤ f → k.toNat ≤ g → digF f k out = digF g k out := by
  intro f
  induction f with
  | zero => intro g k out h1 _; rw [digF_stop (by omega), digF_stop (by omega)]
  | succ f ih =>
    intro g k out h1 h2
    by_cases h : 0 < k
    · cases g with
      | zero => omega
      | succ g =>
        rw [digF_pos h, digF_pos h]
        have : k.tdiv 10 = k / 10 := Int.tdiv_eq_ediv_of_nonneg (by omega)
        exact ih (by rw [this]; omega) (by rw [this]; omega)
    · rw [digF_stop h, digF_stop h]
def mkKs : List ByteArray → Int → List ByteArray
  | [], _ => []
  | _ :: r, k => mkS k :: mkKs r (k + 1)
mutual
def nmT : T → Int
  | .mk _ _ _ ks l => 3 + ks.length + nmL l
def nmL : List T → Int
  | [] => 0
  | t :: l => nmT t + nmL l
end
mutual
def mkT : T → Int → T
  | .mk _ _ _ ks l, k => .mk k (k + 1) (mkS (k + 2)) (mkKs ks (k + 3)) (mkL l (k + 3 + ks.length))
def mkL : List T → Int → List T
  | [], _ => []
  | t :: l, k => mkT t k :: mkL l (k + nmT t)
end
/-- What is marked in a tree that is handed over by its value. -/
def mkV : T → Int → T
  | .mk kk n s ks l, k => .mk kk n s (mkKs ks k) (mkL l (k + ks.length))
def nmV : T → Int
  | .mk _ _ _ ks l => ks.length + nmL l
theorem mkKs_len : ∀ {ks : List ByteArray} {k : Int}, (mkKs ks k).length = ks.length
  | [], _ => rfl
  | _ :: r, k => by simp [mkKs, mkKs_len (ks := r)]
theorem mkL_len : ∀ {l : List T} {k : Int}, (mkL l k).length = l.length
  | [], _ => rfl
  | _ :: r, k => by simp [mkL, mkL_len (l := r)]
mutual
theorem nmT_nn : ∀ t : T, 3 ≤ nmT t
  | .mk _ _ _ ks l => by have := nmL_nn l; simp only [nmT]; omega
theorem nmL_nn : ∀ l : List T, 0 ≤ nmL l
  | [] => by simp [nmL]
  | t :: l => by have := nmT_nn t; have := nmL_nn l; simp only [nmL]; omega
end
mutual
theorem nmT_mk : ∀ (t : T) (k : Int), nmT (mkT t k) = nmT t
  | .mk _ _ _ ks l, k => by simp only [mkT, nmT, mkKs_len, nmL_mk l]
theorem nmL_mk : ∀ (l : List T) (k : Int), nmL (mkL l k) = nmL l
  | [], _ => rfl
  | t :: l, k => by simp only [mkL, nmL, nmT_mk t, nmL_mk l]
end
theorem mkKs_mk : ∀ (ks : List ByteArray) (k : Int), mkKs (mkKs ks k) k = mkKs ks k
  | [], _ => rfl
  | _ :: r, k => by simp only [mkKs, mkKs_mk r]
mutual
theorem mkT_mk : ∀ (t : T) (k : Int), mkT (mkT t k) k = mkT t k
  | .mk _ _ _ ks l, k => by simp only [mkT, mkKs_mk, mkKs_len, mkL_mk l]
theorem mkL_mk : ∀ (l : List T) (k : Int), mkL (mkL l k) k = mkL l k
  | [], _ => rfl
  | t :: l, k => by simp only [mkL, mkT_mk t, nmT_mk t, mkL_mk l]
end
theorem mkV_mk (t : T) (k : Int) : mkV (mkV t k) k = mkV t k := by cases t; simp only [mkV, mkKs_mk, mkKs_len, mkL_mk]
theorem nmV_mk (t : T) (k : Int) : nmV (mkV t k) = nmV t := by cases t; simp only [mkV, nmV, mkKs_len, nmL_mk]
theorem nmL_app : ∀ (a b : List T), nmL (a ++ b) = nmL a + nmL b
  | [], b => by simp [nmL]
  | t :: a, b => by simp only [List.cons_append, nmL, nmL_app a b]; omega
theorem nmL_take {l : List T} {i : Nat} {t : T} (h : l[i]? = some t) : nmL (l.take (i + 1)) = nmL (l.take i) + nmT t := by
  rw [List.take_add_one, h, nmL_app]; simp [nmL]
theorem mkL_app : ∀ (a b : List T) (k : Int), mkL (a ++ b) k = mkL a k ++ mkL b (k + nmL a)
  | [], b, k => by simp [mkL, nmL]
  | t :: a, b, k => by simp only [List.cons_append, mkL, nmL, mkL_app a b]; rw [show k + nmT t + nmL a = k + (nmT t + nmL a) by omega]
theorem mkKs_app : ∀ (a b : List ByteArray) (k : Int), mkKs (a ++ b) k = mkKs a k ++ mkKs b (k + a.length)
  | [], b, k => by simp [mkKs]
  | t :: a, b, k => by simp only [List.cons_append, mkKs, mkKs_app a b, List.length_cons]; rw [show k + 1 + (a.length : Int) = k + ((a.length + 1 : Nat) : Int) by omega]
theorem mkL_take {l : List T} {i : Nat} {t : T} (h : l[i]? = some t) (k : Int) : mkL (l.take (i + 1)) k = mkL (l.take i) k ++ [mkT t (k + nmL (l.take i))] := by
  rw [List.take_add_one, h, mkL_app]; simp [mkL]
theorem mkKs_take {l : List ByteArray} {i : Nat} {t : ByteArray} (h : l[i]? = some t) (k : Int) : mkKs (l.take (i + 1)) k = mkKs (l.take i) k ++ [mkS (k + i)] := by
  have hl : i < l.length := (List.getElem?_eq_some_iff.1 h).1
  rw [List.take_add_one, h, mkKs_app]; simp [mkKs, Nat.min_eq_left (Nat.le_of_lt hl)]
theorem nmL_take_le {l : List T} {i : Nat} : nmL (l.take i) ≤ nmL l := by
  have h := nmL_app (l.take i) (l.drop i)
  rw [List.take_append_drop] at h
  have := nmL_nn (l.drop i); omega
theorem drop_of {α : Type} {l : List α} {i : Nat} {t : α} (h : l[i]? = some t) : l.drop i = t :: l.drop (i + 1) := by
  have hi : i < l.length := (List.getElem?_eq_some_iff.1 h).1
  rw [List.getElem?_eq_getElem hi] at h
  rw [List.drop_eq_getElem_cons hi, Option.some.inj h]
theorem mkL_at {l : List T} {k : Int} (h : mkL l k = l) {i : Nat} {t : T} (ht : l[i]? = some t) : mkT t (k + nmL (l.take i)) = t := by
  have hi : i < l.length := (List.getElem?_eq_some_iff.1 ht).1
  have e1 := mkL_app (l.take i) (l.drop i) k
  rw [List.take_append_drop, h, drop_of ht] at e1
  simp only [mkL] at e1
  have e2 := congrArg (fun x => x[i]?) e1
  simp only [ht] at e2
  rw [List.getElem?_append_right (by rw [mkL_len]; simp; omega), mkL_len, List.length_take, Nat.min_eq_left (Nat.le_of_lt hi), Nat.sub_self, List.getElem?_cons_zero] at e2
  exact (Option.some.inj e2).symm
theorem mkKs_at {l : List ByteArray} {k : Int} (h : mkKs l k = l) {i : Nat} {t : ByteArray} (ht : l[i]? = some t) : mkS (k + i) = t := by
  have hi : i < l.length := (List.getElem?_eq_some_iff.1 ht).1
  have e1 := mkKs_app (l.take i) (l.drop i) k
  rw [List.take_append_drop, h, drop_of ht] at e1
  simp only [mkKs, List.length_take, Nat.min_eq_left (Nat.le_of_lt hi)] at e1
  have e2 := congrArg (fun x => x[i]?) e1
  simp only [ht] at e2
  rw [List.getElem?_append_right (by rw [mkKs_len]; simp; omega), mkKs_len, List.length_take, Nat.min_eq_left (Nat.le_of_lt hi), Nat.sub_self, List.getElem?_cons_zero] at e2
  exact (Option.some.inj e2).symm
/-- The middle of a list turns. -/
theorem set_mid {α : Type} {a r : List α} {x y : α} {i : Nat} (h : a.length = i) : (a ++ x :: r).set i y = a ++ y :: r := by subst h; simp
theorem get_mid {α : Type} {a r : List α} {x d : α} {i : Nat} (h : a.length = i) : (a ++ x :: r).getD i d = x := by subst h; simp
mutual
theorem nmT_sz : ∀ {t : T} {left : Int}, 0 ≤ left → 0 ≤ szT t left → nmT t ≤ 3 + 3 * (left - szT t left)
  | .mk k n s ks l, left, h, h0 => by
    simp only [szT] at h0 ⊢
    split at h0
    · omega
    · rename_i c1
      rw [if_neg c1]
      split at h0
      · omega
      · rename_i c2
        rw [if_neg c2]
        split at h0
        · omega
        · rename_i c3
          rw [if_neg c3]
          have h1 := szStrS_le (ks := ks) (left := left - s.size) (by omega)
          have h2 : szStrS ks (left - s.size) ≤ left - s.size - ks.length := by
            have := h1; simp only [szStrS] at c2 ⊢; split
            · rename_i c; rw [if_pos c] at c2; omega
            · exact (szStr_le (by omega)).1
          have h3 := nmL_sz (l := l) (left := szStrS ks (left - s.size) - l.length) (by omega) h0
          simp only [nmT]; omega
theorem nmL_sz : ∀ {l : List T} {left : Int}, 0 ≤ left → 0 ≤ szTL l left → nmL l ≤ 3 * l.length + 3 * (left - szTL l left)
  | [], left, h, h0 => by simp [nmL, szTL]
  | t :: r, left, h, h0 => by
    simp only [szTL] at h0 ⊢
    split at h0
    · omega
    · rename_i c1
      rw [if_neg c1]
      have h1 := nmT_sz (t := t) h (by omega)
      have h2 := nmL_sz (l := r) (left := szT t left) (by omega) h0
      simp only [nmL, List.length_cons]; omega
end
end Go.Proofs.Pw
