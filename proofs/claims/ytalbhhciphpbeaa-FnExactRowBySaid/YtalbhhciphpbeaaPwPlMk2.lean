/- What is marked fits. -/
import Derived.Test.YtalbhhciphpbeaaPwPlMk
import Derived.Test.YtalbhhciphpbeaaPwPlOk
set_option linter.unusedSimpArgs false
set_option linter.unusedVariables false
namespace Go.Proofs.Pw
theorem digF_size : ∀ {f : Nat} {k : Int} {out : ByteArray}, (digF f k out).size ≤ out.size + f := by
  intro f
  induction f with
  | zero => intro k out; exact Nat.le_refl _
  | succ f ih =>
    intro k out
    simp only [digF]
    split
    · have := ih (k := k.tdiv 10) (out := bytesS [48 + k.tmod 10] ++ out)
      rw [ByteArray.size_append, show (bytesS [48 + k.tmod 10]).size = 1 from rfl] at this
      omega
    · omega
theorem mkS_size {k : Int} (h : 0 ≤ k) : ((mkS k).size : Int) ≤ k + 2 := by
  unfold mkS
  split
  · show ((2 : Nat) : Int) ≤ _; omega
  · have := digF_size (f := k.toNat) (k := k) (out := ⟨#[]⟩)
    rw [ByteArray.size_append]
    have e1 : (ByteArray.mk #[109]).size = 1 := rfl
    have e2 : (ByteArray.mk #[]).size = 0 := rfl
    rw [e1]; rw [e2] at this; omega
theorem mkKs_fit {B : Int} : ∀ {ks : List ByteArray} {k : Int}, 0 ≤ k → k + ks.length + 2 ≤ B → ∀ s ∈ mkKs ks k, lenB B s.size
  | [], _, _, _ => by simp [mkKs]
  | _ :: r, k, h, hb => by
    intro s hs
    simp only [List.length_cons] at hb
    simp only [mkKs, List.mem_cons] at hs
    rcases hs with rfl | hs
    · have := mkS_size h; unfold lenB; omega
    · exact mkKs_fit (by omega) (by omega) s hs
mutual
theorem mkT_fit {B : Int} (hB : B ≤ 4611686018427387904) : ∀ {t : T} {k : Int}, t.fit B → 0 ≤ k → k + nmT t + 2 ≤ B → (mkT t k).fit B
  | .mk _ _ _ ks l, k, h, h0, hb => by
    simp only [T.fit] at h
    obtain ⟨_, _, f1, f2, f3, f4⟩ := h
    have c1 := nmL_nn l
    simp only [nmT] at hb
    have := mkS_size (k := k + 2) (by omega)
    refine ⟨by unfold i64; omega, by unfold i64; omega, by unfold lenB; omega, ⟨by rw [mkKs_len]; exact f2.1, mkKs_fit (by omega) (by omega)⟩, by rw [mkL_len]; exact f3, mkL_fit hB f4 (by omega) (by omega)⟩
theorem mkL_fit {B : Int} (hB : B ≤ 4611686018427387904) : ∀ {l : List T} {k : Int}, fitL B l → 0 ≤ k → k + nmL l + 2 ≤ B → fitL B (mkL l k)
  | [], _, _, _, _ => trivial
  | t :: r, k, h, h0, hb => by
    simp only [fitL] at h
    have c1 := nmL_nn r
    have c2 := nmT_nn t
    simp only [nmL] at hb
    exact ⟨mkT_fit hB h.1 h0 (by omega), mkL_fit hB h.2 (by omega) (by omega)⟩
end
theorem mkV_fit {B : Int} (hB : B ≤ 4611686018427387904) {t : T} {k : Int} (h : t.fit B) (h0 : 0 ≤ k) (hb : k + nmV t + 2 ≤ B) : (mkV t k).fit B := by
  obtain ⟨kk, n, s, ks, l⟩ := t
  simp only [T.fit] at h
  obtain ⟨f5, f6, f1, f2, f3, f4⟩ := h
  have c1 := nmL_nn l
  simp only [nmV] at hb
  exact ⟨f5, f6, f1, ⟨by rw [mkKs_len]; exact f2.1, mkKs_fit (by omega) (by omega)⟩, by rw [mkL_len]; exact f3, mkL_fit hB f4 (by omega) (by omega)⟩
mutual
theorem nmT_size : ∀ {t : T}, t.fit 60 → nmT t ≤ 63 * sizeT t
  | .mk _ _ _ ks l, h => by
    simp only [T.fit, strsFit, lenB] at h
    obtain ⟨_, _, _, ⟨f1, _⟩, _, f4⟩ := h
    have := nmL_size f4
    simp only [nmT, sizeT]; omega
theorem nmL_size : ∀ {l : List T}, fitL 60 l → nmL l ≤ 63 * sizeL l
  | [], _ => by simp [nmL, sizeL]
  | t :: r, h => by
    simp only [fitL] at h
    have := nmT_size h.1
    have := nmL_size h.2
    simp only [nmL, sizeL]; omega
end
theorem nmV_nn (t : T) : 0 ≤ nmV t := by cases t with | mk _ _ _ ks l => have := nmL_nn l; simp only [nmV]; omega
theorem nmV_le (t : T) : nmV t ≤ nmT t := by cases t with | mk _ _ _ ks l => simp only [nmV, nmT]; omega
theorem nmV_ok {t : T} (h : okT t) : nmV t ≤ 4000 := by
  have h1 := nmT_size (okT_fit h)
  have h2 := okT_size h
  have h3 := nmV_le t
  omega
/-- A marked answer of either program. -/
theorem mkV_ok {t : T} (h : okT t) : (mkV t 1).fit 140737488355328 :=
  mkV_fit (by omega) (T.fit_mono (by decide) (okT_fit h)) (by omega) (by have := nmV_ok h; omega)
end Go.Proofs.Pw
